/- Layer 62: its data, and what its functions compute. -/
import Derived.Test.YtmbfmnhcahhciaaN
import Derived.Test.YtmbfmnhcahhciaaIU
import Derived.Test.YtmbfmnhcahhciaaU
namespace Go.Proofs.Ytmbfmnhcahhciaa.A
open Go Go.RowKit Go.Maps Go.Sort
set_option linter.unusedVariables false
set_option linter.unusedSimpArgs false
set_option linter.unusedSectionVars false
variable {P : Program} {w0 : Base} {C0 C : CS} {T : TS} {S S' : AState} {a : Act} {w : World} {ops : Array Oper} {rest : List Oper} {o : Oper} {Q : Exit → AState → Prop}

def bts (l : List UInt8) : AV := .sl 1 (u8s l)
structure File where
  name : ByteArray
  data : List UInt8
def File.cs (f : File) : List AV := [.v (.string f.name), bts f.data]
def files (l : List File) : AV := .sl 2 (l.map File.cs)
structure FC where
  kind : Int
  name : ByteArray
  to : ByteArray
  data : List UInt8
def FC.cs (c : FC) : List AV := [.v (.int .i64 c.kind), .v (.string c.name), .v (.string c.to), bts c.data]
def fcsA (l : List FC) : AV := .sl 4 (l.map FC.cs)
def strA (s : ByteArray) : AV := .v (.string s)
def boolA (b : Bool) : AV := .v (.bool b)
def E0 : ByteArray := ⟨#[]⟩

/-! ### own slices of strings, in boxes -/
def strsC (l : List ByteArray) : List AV := l.map fun s => .v (.string s)
theorem strsC_len (l : List ByteArray) : (strsC l).length = l.length := by simp [strsC]
def GrowS (l : List ByteArray) (r : AV) (n : List OE) : Prop :=
  (l = [] ∧ r = .v (.slice none 0 0) ∧ n = []) ∨ ∃ g cap ext, cap = l.length + ext.length ∧ r = .v (.slice (some ⟨g, 0, none⟩) l.length cap) ∧ n = [⟨g, true, .box (strsC l ++ ext)⟩]
theorem str_at {l : List ByteArray} {ext : List AV} {k : Nat} {x : ByteArray} (h : l[k]? = some x) : (strsC l ++ ext)[0 + k * 1]? = some (.v (.string x)) := by
  have hk := (List.getElem?_eq_some_iff.1 h).1
  rw [Nat.zero_add, Nat.mul_one, List.getElem?_append_left (by simpa [strsC] using hk)]
  simp [strsC, h]
theorem str_set {l : List ByteArray} {ext : List AV} {k : Nat} {x : ByteArray} (h : k < l.length) : (strsC l ++ ext).take (0 + k * 1) ++ [AV.v (.string x)] ++ (strsC l ++ ext).drop (0 + k * 1 + 1) = strsC (l.set k x) ++ ext := by
  rw [Nat.zero_add, Nat.mul_one]
  apply List.ext_getElem?
  intro j
  have hl := strsC_len l
  have hl2 := strsC_len (l.set k x)
  rw [List.length_set] at hl2
  by_cases hj : j < l.length
  · rw [List.getElem?_append_left (l₁ := strsC (l.set k x)) (by omega)]
    by_cases hjk : j = k
    · subst hjk
      rw [List.getElem?_append_left (by simp [hl]; omega), List.getElem?_append_right (by simp [hl]; omega)]
      simp [strsC, hj, Nat.min_eq_left (Nat.le_of_lt (show j < l.length + ext.length by omega))]
    · rcases Nat.lt_or_gt_of_ne hjk with hlt | hgt
      · rw [List.getElem?_append_left (by simp [hl]; omega), List.getElem?_append_left (by simp [hl]; omega), List.getElem?_take, if_pos hlt, List.getElem?_append_left (by omega)]
        simp [strsC, List.getElem?_set, show ¬ k = j from fun e => hjk e.symm]
      · rw [List.getElem?_append_right (by simp [hl]; omega), List.getElem?_drop]
        simp only [List.length_append, List.length_take, List.length_singleton, hl]
        rw [show k + 1 + (j - (min k (l.length + ext.length) + 1)) = j by omega, List.getElem?_append_left (by omega)]
        simp [strsC, List.getElem?_set, show ¬ k = j by omega]
  · rw [List.getElem?_append_right (l₁ := strsC (l.set k x)) (by omega), List.getElem?_append_right (by simp [hl]; omega), List.getElem?_drop]
    simp only [List.length_append, List.length_take, List.length_singleton, hl, hl2]
    rw [show k + 1 + (j - (min k (l.length + ext.length) + 1)) = j by omega, List.getElem?_append_right (by omega), hl]

theorem ac_sortedG {f it k : Nat} (hf : SortsIt P f it k) (hk : P.underlying k = some .string) {g b : Nat} {rg rw' : Bool} {es : List (Value × AV)} {ss : List ByteArray} (hes : es.map (·.1) = ss.map Value.string) (hnd : ss.Nodup) (hsz : ∀ s ∈ ss, s.size ≤ maxLen) (hlen : es.length ≤ 1000000) :
    AC P f [.fn it [.v (.pointer (some ⟨g, 0, none⟩))]] [⟨g, rg, .box [.v (.map (some b))]⟩, ⟨b, rw', .map es⟩] (GrowS (sortB ss)) := by
  intro C w vals hcom hrels hobjs
  obtain ⟨v0, vs0, hv, hr0, hr1⟩ := hrels.cons_inv
  have hv0 : vs0 = [] := hr1.nil_inv
  subst hv0
  obtain ⟨arr, rfl⟩ : ∃ arr, v0 = .func (.func it) #[] arr := by cases hr0; exact ⟨_, rfl⟩
  obtain ⟨u, us, hu, hu1, hu2⟩ := (rel_fn.1 hr0).cons_inv
  cases hu1
  have hus := hu2.nil_inv
  subst hus
  obtain rfl : arr = #[.pointer (some ⟨g, 0, none⟩)] := by apply Array.ext'; simpa using hu
  obtain rfl : vals = #[.func (.func it) #[] #[.pointer (some ⟨g, 0, none⟩)]] := by apply Array.ext'; simpa using hv
  obtain ⟨barr, bt, hbg, hbr⟩ : ObjRel C g (.box [.v (.map (some b))]) w := (hobjs.1 ⟨g, rg, .box [.v (.map (some b))]⟩ (by simp)).1
  have hcell : w.cell? ⟨g, 0, none⟩ = some (.map (some b)) := by
    obtain ⟨x, xs, hx, hx1, hx2⟩ := hbr.cons_inv
    cases hx1
    rw [cell_of_row w g 0 barr bt (0, 0) hbg]
    have := congrArg (·[0]?) hx
    simpa using this
  obtain ⟨D0, h1, h2, h3⟩ := map_owned (C := C) hk hes hnd hsz (by unfold maxLen; omega) (hobjs.1 ⟨b, rw', .map es⟩ (by simp)).1
  refine (hf g b _ D0 _ w (Array.getElem?_eq_some_iff.1 hbg).1 hcell h1 (by rw [h3]; unfold maxLen; omega) (by rw [h3]; omega)).mono ?_
  rintro e w' ⟨v, ss', rfl, hp, ⟨hl, hrow⟩, hnil, hb⟩
  have hsort : (ss'.mergeSort (fun x y => decide (x ≤ y))) = ((ss.map (·.data.toList)).mergeSort (fun x y => decide (x ≤ y))) := mergeSort_of_perm (hp.trans h2)
  rw [hsort] at hrow hl
  have hlb : ∀ b o v, C b o = some v → b < w.heap.size := fun b o v hc => by have := World.block_lt_of_cell? w _ (hcom.1 _ _ _ hc); simpa using this
  have hcom' : ∀ b o v, C b o = some v → w'.cell? ⟨b, o, none⟩ = some v := fun b o v hc => by
    rw [← hcom.1 b o v hc]; exact World.cell?_of_block (a := ⟨b, o, none⟩) (hb.block b (hlb _ _ _ hc))
  have hlen' : (sortB ss).length = ss'.length := by
    unfold sortB; rw [List.length_map, ← hsort, List.length_mergeSort]
  rcases hrow with ⟨rfl, hn⟩ | ⟨g, cap, cur, rfl, hg, hgb, hcap, _, hcs, htk⟩
  · have hz : sortB ss = [] := List.eq_nil_of_length_eq_zero (by omega)
    exact ⟨_, C, _, [], rfl, .inl ⟨hz, rfl, rfl⟩, hb, fun _ _ _ => rfl, ⟨hcom', hcom.2⟩, .v _, ⟨by simp, by simp⟩, by simp⟩
  · have hcl : cur.toList.length = cap := by simpa using hcs
    refine ⟨_, C, _, _, rfl, .inr ⟨g, cap, (cur.toList.drop ss'.length).map AV.v, by simp [hlen', hcl]; omega, rfl, rfl⟩, hb, fun _ _ _ => rfl, ⟨hcom', hcom.2⟩, by rw [hlen']; exact .v _, ⟨fun e he => ?_, by simp⟩, fun e he => ?_⟩
    · obtain rfl := List.mem_singleton.1 he
      refine ⟨⟨cur, k, hgb, ?_⟩, fun o => ?_⟩
      · have e1 : strsC (sortB ss) = (cur.toList.take ss'.length).map AV.v := by
          rw [Nat.mul_one] at htk
          rw [htk]
          unfold strsC sortB
          rw [List.map_map, List.map_map]
          rfl
        rw [e1, ← List.map_append, List.take_append_drop]
        exact rels_vs _
      · cases hc : C g o with
        | none => rfl
        | some v => exact absurd (hlb _ _ _ hc) (by omega)
    · obtain rfl := List.mem_singleton.1 he
      exact hg
theorem strs_flat : ∀ l : List ByteArray, (l.map fun s => [AV.v (.string s)]).flatten = strsC l
  | [] => rfl
  | x :: l => by rw [List.map_cons, List.flatten_cons, strs_flat l]; rfl
/-- an own box, as a slice's row -/
theorem awl_boxBuf (i : Nat) {g cap : Nat} {l : List ByteArray} {ext : List AV} {lst : List Oper} (hi : S.objs[i]? = some ⟨g, true, .box (strsC l ++ ext)⟩) (hc : cap = l.length + ext.length)
    (hr : ∀ e, AWL P w0 C0 ops lst Q ⟨S.nt, S.slots, S.objs.set i ⟨g, true, .buf 1 (l.map fun s => [.v (.string s)]) cap e⟩⟩) : AWL P w0 C0 ops lst Q S := by
  rintro a w ⟨C, T, hs⟩
  obtain ⟨arr, t0, g1, g2⟩ := (hs.objs _ (mem_of_get hi)).1
  have harr := box_get g2
  refine hr t0 a w ⟨C, T, ?_⟩
  have hfl := strs_flat l
  refine hs.setObj hi (w' := w) (Nat.le_refl _) rfl rfl rfl rfl (fun _ _ => rfl) ⟨arr, g1, by rw [harr]; simp [strsC_len, hc], by simp; omega, fun cs hcs => by obtain ⟨s, _, rfl⟩ := List.mem_map.1 hcs; rfl, arr.toList.take l.length, ?_, fun v hv => ?_, by simp⟩
  · rw [hfl]
    have := rels_take_drop g2 0 l.length
    simp only [List.drop_zero] at this
    rwa [show (strsC l ++ ext).take l.length = strsC l from by rw [← strsC_len l, List.take_left]] at this
  · have := rels_take_drop g2 0 l.length
    simp only [List.drop_zero] at this
    rw [show (strsC l ++ ext).take l.length = strsC l from by rw [← strsC_len l, List.take_left]] at this
    exact this.ones (by simp [strsC, AV.one, Value.oneCell']) v hv

/-! ### maps of the files of names -/
def lookF (l : List File) (s : ByteArray) : Option (List UInt8) := (l.find? (fun f => decide (f.name = s))).map (·.data)
structure TellsS (m : List (ByteArray × List UInt8)) (l : List File) : Prop where
  nd : (m.map (·.1)).Nodup
  get : ∀ s, mget m s = lookF l s
  len : m.length ≤ l.length
theorem tellsS_nil : TellsS [] [] := ⟨by simp, fun s => rfl, by simp⟩
theorem tellsS_has {m : List (ByteArray × List UInt8)} {l : List File} {k : Nat} {x : File} (h : TellsS m (l.take k)) (hx : l[k]? = some x) (hg : (mget m x.name).isSome = true) : TellsS m (l.take (k + 1)) := by
  refine ⟨h.nd, fun p => ?_, Nat.le_trans h.len (by simp; omega)⟩
  rw [h.get]
  rw [h.get] at hg
  unfold lookF at *
  rw [takeS hx, List.find?_append]
  cases hf : (l.take k).find? (fun e => decide (e.name = p)) with
  | some y => simp
  | none =>
    by_cases hp : x.name = p
    · rw [hp, hf] at hg; simp at hg
    · simp [hp]
theorem tellsS_new {m : List (ByteArray × List UInt8)} {l : List File} {k : Nat} {x : File} (h : TellsS m (l.take k)) (hx : l[k]? = some x) (hg : (mget m x.name).isSome = false) : TellsS (mset m x.name x.data) (l.take (k + 1)) := by
  have hk := (List.getElem?_eq_some_iff.1 hx).1
  refine ⟨mset_nodup h.nd, fun p => ?_, ?_⟩
  · rw [mget_mset, h.get]
    rw [h.get] at hg
    unfold lookF at *
    rw [takeS hx, List.find?_append]
    by_cases hp : x.name = p
    · rw [hp] at hg
      cases hf : (l.take k).find? (fun e => decide (e.name = p)) with
      | some y => rw [hf] at hg; simp at hg
      | none => simp [hp]
    · cases hf : (l.take k).find? (fun e => decide (e.name = p)) <;> simp [hp]
  · have h1 := h.len
    have := mset_len (m := m) (k := x.name) (v := x.data)
    simp at h1 ⊢; omega
def namesF (l : List File) : List ByteArray := l.foldl (fun ns f => insS ns f.name) []
theorem namesF_mem (x : ByteArray) : ∀ (l : List File) (ns : List ByteArray), x ∈ l.foldl (fun ns f => insS ns f.name) ns ↔ x ∈ ns ∨ ∃ f ∈ l, f.name = x
  | [], ns => by simp
  | f :: r, ns => by
    rw [List.foldl_cons, namesF_mem x r, insS_mem]
    constructor
    · rintro ((h | h) | ⟨y, hy, h⟩)
      · exact .inr ⟨f, by simp, h.symm⟩
      · exact .inl h
      · exact .inr ⟨y, by simp [hy], h⟩
    · rintro (h | ⟨y, hy, h⟩)
      · exact .inl (.inr h)
      · rcases List.mem_cons.1 hy with rfl | hy
        · exact .inl (.inl h.symm)
        · exact .inr ⟨y, hy, h⟩
theorem namesF_sorted : ∀ (l : List File) (ns : List ByteArray), SortedS ns → SortedS (l.foldl (fun ns f => insS ns f.name) ns)
  | [], ns, h => h
  | f :: r, ns, h => namesF_sorted r _ (insS_sorted h)
theorem names_in {l : List File} {s : ByteArray} : s ∈ namesF l ↔ (lookF l s).isSome = true := by
  unfold namesF lookF
  rw [namesF_mem]
  simp [List.find?_isSome]
theorem names_ok (l : List File) : SortedS (namesF l) := namesF_sorted l [] List.Pairwise.nil
theorem names_len (l : List File) : (namesF l).length ≤ l.length := by
  have : ∀ (l : List File) (ns : List ByteArray), (l.foldl (fun ns f => insS ns f.name) ns).length ≤ ns.length + l.length := by
    intro l
    induction l with
    | nil => simp
    | cons f l ih =>
      intro ns
      rw [List.foldl_cons]
      have := ih (insS ns f.name)
      have h2 := insS_len (n := f.name) (l := ns)
      simp; omega
  have := this l []; simpa [namesF] using this
theorem keys_names {m : List (ByteArray × List UInt8)} {l : List File} (h : TellsS m l) : sortB (m.map (·.1)) = namesF l :=
  sortedS_ext (sortB_sorted h.nd) (names_ok l) (fun x => by rw [sortB_mem, ← mget_some, h.get, names_in])

theorem AC.swap {P : Program} {f : FuncId} {args : List AV} {e1 e2 : OE} {R : AV → List OE → Prop} (h : AC P f args [e1, e2] R) : AC P f args [e2, e1] R := fun C w vals h1 h2 h3 =>
  h C w vals h1 h2 ⟨fun e he => h3.1 e (by simp at he ⊢; exact he.symm), (List.Perm.pairwise_iff (R := fun e e' : OE => e.b ≠ e'.b) (fun h => fun k => h k.symm) (List.Perm.swap e1 e2 [])).1 h3.2⟩
theorem fmS_step {α β : Type} {f : α → Option β} {l : List α} {k : Nat} {x : α} (h : l[k]? = some x) : (l.take (k + 1)).filterMap f = (l.take k).filterMap f ++ (f x).toList := by
  rw [takeS h, List.filterMap_append]
  cases hf : f x <;> simp [hf]
theorem look_len {l : List File} {n : Nat} (h : ∀ f ∈ l, f.data.length ≤ n) (s : ByteArray) : ((lookF l s).getD []).length ≤ n := by
  unfold lookF
  cases hf : l.find? (fun f => decide (f.name = s)) with
  | none => simp
  | some f => simpa using h f (List.mem_of_find?_eq_some hf)
theorem keys_size {m : List (ByteArray × List UInt8)} {l : List File} (h : TellsS m l) (hl : ∀ f ∈ l, f.name.size ≤ 1000000) : ∀ s ∈ m.map (·.1), s.size ≤ maxLen := fun s hs => by
  rw [← mget_some, h.get] at hs
  unfold lookF at hs
  simp [List.find?_isSome] at hs
  obtain ⟨f, hf, rfl⟩ := hs
  have := hl f hf; unfold maxLen; omega

/-! ### what changed -/
def hitF (a b : List File) (s t : ByteArray) : Bool := decide (0 < ((lookF a s).getD []).length) && decide ((lookF a s).getD [] = (lookF b t).getD [])
def stepO (a b : List File) (st : List ByteArray × List FC × List FC) (s : ByteArray) : List ByteArray × List FC × List FC :=
  match st.1.findIdx? (hitF a b s) with
  | none => (st.1, st.2.1, st.2.2 ++ [⟨2, s, E0, []⟩])
  | some i => (st.1.eraseIdx i, st.2.1 ++ [⟨4, s, st.1.getD i E0, []⟩], st.2.2)
def wentF (a b : List File) : List ByteArray := (namesF a).filter (fun s => !(lookF b s).isSome)
def splitF (a b : List File) (k : Nat) : List ByteArray × List FC × List FC := ((wentF a b).take k).foldl (stepO a b) (wentF b a, [], [])
def chgF (a b : List File) (s : ByteArray) : Option FC :=
  match lookF b s with
  | some d => cond (decide ((lookF a s).getD [] = d)) none (some ⟨3, s, E0, d⟩)
  | none => none
def addF (b : List File) (s : ByteArray) : FC := ⟨1, s, E0, (lookF b s).getD []⟩
def splitE (a b : List File) : List ByteArray × List FC × List FC := splitF a b (wentF a b).length
def OfF (a b : List File) : List FC := (splitE a b).2.1 ++ (splitE a b).2.2 ++ (namesF a).filterMap (chgF a b) ++ (splitE a b).1.map (addF b)
theorem went_eq {a b : List File} {ma mb : List (ByteArray × List UInt8)} (ha : TellsS ma a) (hb : TellsS mb b) : (sortB (ma.map (·.1))).filter (fun s => !(mget mb s).isSome) = wentF a b := by
  unfold wentF
  rw [keys_names ha]
  congr 1; funext s; rw [hb.get]
theorem went_len (a b : List File) : (wentF a b).length ≤ a.length := Nat.le_trans (List.length_filter_le _ _) (names_len a)
theorem split_none {a b : List File} {k : Nat} {s : ByteArray} {came : List ByteArray} {out gone : List FC} (hs : (wentF a b)[k]? = some s) (h : splitF a b k = (came, out, gone)) (hn : came.findIdx? (hitF a b s) = none) :
    splitF a b (k + 1) = (came, out, gone ++ [⟨2, s, E0, []⟩]) := by
  unfold splitF at *
  rw [fold_take hs, h, stepO]; simp only [hn]
theorem split_some {a b : List File} {k i : Nat} {s t : ByteArray} {came : List ByteArray} {out gone : List FC} (hs : (wentF a b)[k]? = some s) (h : splitF a b k = (came, out, gone)) (hn : came.findIdx? (hitF a b s) = some i) (ht : came[i]? = some t) :
    splitF a b (k + 1) = (came.eraseIdx i, out ++ [⟨4, s, t, []⟩], gone) := by
  unfold splitF at *
  rw [fold_take hs, h, stepO]; simp only [hn, List.getD_eq_getElem?_getD, ht, Option.getD_some]
end Go.Proofs.Ytmbfmnhcahhciaa.A

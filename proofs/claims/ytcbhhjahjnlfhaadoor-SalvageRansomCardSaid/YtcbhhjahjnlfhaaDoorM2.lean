import Derived.WalkKit
import Derived.Below
import Derived.Laws.Rows
import Derived.Laws.CopyRow
import Derived.Laws.AppendOwn
import Derived.RangeFuncLeaves
import Derived.RangeFuncSeq
import Derived.RangeFuncCalls
import Derived.MapKept
import Derived.Orders
import Derived.Laws.IdiomStrings
import Derived.Laws.BytesArg
import Derived.Shelf.SlIter.Nil
import Derived.Shelf.SortM.Plain
import Derived.Shelf.SortM.SortNone
import Derived.Ground.GgzProg
import Derived.Ground.SlgmProg
import Derived.Test.YtcbhhjahjnlfhaaDoorProg
import Derived.KernelRfl
import Derived.RangeFuncBound
import Derived.Maps.RangeRun
import Derived.DeepKeys3
import Derived.Laws.StructEq
import Derived.Shelf.SlSortCmp.NoneTotal
import Derived.ChangeKeysEq
import Derived.Laws.MakeOwn
import Derived.ChangeArms
import Derived.ChangeOld
import Derived.Laws.DeepStrings4
import Derived.OpenShut
import Derived.OrdersIn
import Derived.Lib.AppendZeros
import Derived.Lib.AppendZerosOnto
import Derived.Lib.Overlaps
import Derived.Deep.AppendSrc
import Derived.Lib.BytesEntry
import Derived.Laws.Concat
import Derived.Laws.Strings3
import Derived.Test.YtcbhhjahjnlfhaaDoorRows
import Derived.ProofKit
import Derived.LaidMore
import Derived.Stop.Joined
import Derived.Stop.BytesEq
import Derived.Laws.Runes
import Derived.Test.YtcbhhjahjnlfhaaDoorM1
namespace Go.Proofs.YtcbhhjahjnlfhaaDoor.A
open Go Go.RowKit Go.Maps Go.Sort
open Go.WideElems (Fit rd rg rd_mk)
set_option linter.unusedVariables false
set_option linter.unusedSimpArgs false
set_option linter.unusedSectionVars false
variable {P : Program} {C : CS} {w : World}
def strsA (l : List ByteArray) : AV := .sl 1 (l.map fun s => [.v (.string s)])
def sortB (l : List ByteArray) : List ByteArray := ((l.map (·.data.toList)).mergeSort (fun x y => decide (x ≤ y))).map fun x => ⟨x.toArray⟩
theorem string_inj {s t : ByteArray} (h : Value.string s = Value.string t) : s = t := by cases h; rfl
theorem map_owned {k : TypeId} (hk : P.underlying k = some .string) {b : Nat} {es : List (Value × AV)} {ss : List ByteArray} (hes : es.map (·.1) = ss.map Value.string) (hnd : ss.Nodup) (hsz : ∀ s ∈ ss, s.size ≤ maxLen) (hlen : es.length ≤ maxLen)
    (h : ObjRel C b (.map es) w) : ∃ D0 : DataW Unit, w.ownsMap P k (fun _ => some (.nil, [])) b es.length D0 ∧ (strKeys D0).Perm (ss.map (·.data.toList)) ∧ Maps.size D0 = es.length := by
  obtain ⟨ents, clock, h1, h2, h3, h4, h5⟩ := h
  have hel : ents.size = es.length := by have := congrArg List.length h2; simpa using this
  have hkeys : ents.toList.map (·.key) = ss.map Value.string := h2.trans hes
  have hrd : ∀ x ∈ ents.toList, ∃ s : ByteArray, s ∈ ss ∧ x.key = .string s ∧ rd P k (fun _ => some ((.nil : DataW Unit), [])) x = some (.string s.data.toList, .nil) := by
    intro x hx
    have : x.key ∈ ss.map Value.string := by rw [← hkeys]; exact List.mem_map.2 ⟨x, hx, rfl⟩
    obtain ⟨s, hs, he⟩ := List.mem_map.1 this
    refine ⟨s, hs, he.symm, ?_⟩
    obtain ⟨key, val, born⟩ := x
    simp only at he
    subst he
    exact rd_mk (R := fun _ => some ((.nil : DataW Unit), [])) (yv := (.nil, [])) (Go.WideMaps.keyOf_string_mk hk (hsz s hs)) rfl
  refine ⟨_, ⟨ents, clock, h1, ⟨by omega, ⟨h5, ?_, ?_⟩, fun x hx => let ⟨s, _, _, h⟩ := hrd x hx; ⟨_, h⟩⟩, by omega, rfl⟩, ?_, ?_⟩
  · exact h4.imp (fun h => Nat.ne_of_lt h)
  · rw [hkeys]
    exact List.pairwise_map.2 (hnd.imp (fun hne e => hne (string_inj e)))
  · have e : (ents.toList.map (rg P k (fun _ => some ((.nil : DataW Unit), [])))).map (fun p => strOf p.1) = ss.map (·.data.toList) := by
      rw [List.map_map]
      have : ents.toList.map ((fun p => strOf p.1) ∘ rg P k (fun _ => some ((.nil : DataW Unit), []))) = ents.toList.map ((fun v : Value => match v with | .string s => s.data.toList | _ => []) ∘ (·.key)) := by
        refine List.map_congr_left (fun x hx => ?_)
        obtain ⟨s, _, h1, h2⟩ := hrd x hx
        simp [rg, h2, h1, strOf]
      rw [this, ← List.map_map, hkeys, List.map_map]
      rfl
    unfold strKeys
    rw [← e]
    exact (Go.WideShapes.sorted_perm _).map _
  · show (List.foldr DataW.insert [] _).length = _
    rw [length_sorted]; simp [hel]
def KeysAs (P : Program) (f it mt : Nat) : Prop := ∀ (mb : Option Nat) (W : World), Calls P f #[.map mb] W fun e w' => e = .returned (.func (.func it) #[] #[.pointer (some ⟨W.heap.size, 0, none⟩)]) ∧ w' = W.alloc (.cells #[.map mb] mt)
def SortsIt (P : Program) (f it k : Nat) : Prop := ∀ (g b nn : Nat) (D0 : DataW Unit) (R : Value → Option (DataW Unit × List MemPlace)) (w : World), g < w.heap.size → w.cell? ⟨g, 0, none⟩ = some (.map (some b)) → w.ownsMap P k R b nn D0 → Maps.size D0 ≤ maxLen → Maps.size D0 * 16 ≤ 140737488355328 →
  Calls P f #[.func (.func it) #[] #[.pointer (some ⟨g, 0, none⟩)]] w fun e w' => ∃ (v : Value) (ss : List (List UInt8)), e = .returned v ∧ ss.Perm (strKeys D0) ∧
    w'.ownsRow w.heap.size k 1 v ss.length ((ss.mergeSort (fun x y => decide (x ≤ y))).map encStr) ∧ (v = .slice none 0 0 ↔ ss = []) ∧ Below w.heap.size w w'
theorem ac_keys {f it mt : Nat} (hf : KeysAs P f it mt) {mb : Option Nat} : AC P f [.v (.map mb)] [] (fun r n => ∃ g, r = .fn it [.v (.pointer (some ⟨g, 0, none⟩))] ∧ n = [⟨g, true, .box [.v (.map mb)]⟩]) := by
  intro C w vals hcom hrels hobjs
  obtain ⟨v0, vs0, hv, hr0, hr1⟩ := hrels.cons_inv
  have hv0 : vs0 = [] := hr1.nil_inv
  subst hv0
  cases hr0
  obtain rfl : vals = #[.map mb] := by apply Array.ext'; simpa using hv
  refine (hf mb w).mono ?_
  rintro e w' ⟨rfl, rfl⟩
  refine ⟨_, C, _, _, rfl, ⟨w.heap.size, rfl, rfl⟩, (Below.refl _ _).alloc (Nat.le_refl _) _, fun _ _ _ => rfl, ⟨fun b o v hc => ?_, hcom.2⟩, rel_fn.2 (Rels.cons (.v _) Rels.nil), ⟨fun e he => ?_, by simp⟩, fun e he => ?_⟩
  · have hlt : b < w.heap.size := by have := World.block_lt_of_cell? w _ (hcom.1 _ _ _ hc).cell; simpa using this
    exact (hcom.1 b o v hc).keep (Below.heap_alloc _ _ _ hlt)
  · obtain rfl : e = ⟨w.heap.size, true, .box [.v (.map mb)]⟩ := by simpa using he
    refine ⟨⟨_, mt, heap_alloc_at _ _, Rels.cons (.v _) Rels.nil⟩, fun o => ?_⟩
    cases hc : C w.heap.size o with
    | none => rfl
    | some v => have := World.block_lt_of_cell? w _ (hcom.1 _ _ _ hc).cell; simp at this
  · obtain rfl : e = ⟨w.heap.size, true, .box [.v (.map mb)]⟩ := by simpa using he
    exact Nat.le_refl _
theorem ac_sorted {f it k : Nat} (hf : SortsIt P f it k) (hk : P.underlying k = some .string) {g b : Nat} {rg rw' : Bool} {es : List (Value × AV)} {ss : List ByteArray} (hes : es.map (·.1) = ss.map Value.string) (hnd : ss.Nodup) (hsz : ∀ s ∈ ss, s.size ≤ maxLen) (hlen : es.length ≤ 1000000) :
    AC P f [.fn it [.v (.pointer (some ⟨g, 0, none⟩))]] [⟨g, rg, .box [.v (.map (some b))]⟩, ⟨b, rw', .map es⟩] (fun r n => n = [] ∧ r = strsA (sortB ss)) := by
  intro C w vals hcom hrels hobjs
  obtain ⟨v0, vs0, hv, hr0, hr1⟩ := hrels.cons_inv
  have hv0 : vs0 = [] := hr1.nil_inv
  subst hv0
  obtain ⟨arr, rfl⟩ : ∃ arr, v0 = .func (.func it) #[] arr := by cases hr0; exact ⟨_, rfl⟩
  obtain ⟨u, us, hu, hu1, hu2⟩ := (rel_fn.1 hr0).cons_inv
  cases hu1
  have hus := hu2.nil_inv
  subst hus
  obtain rfl : arr = #[.pointer (some ⟨g, 0, none⟩)] := by apply Array.ext'; simpa using hu
  obtain rfl : vals = #[.func (.func it) #[] #[.pointer (some ⟨g, 0, none⟩)]] := by apply Array.ext'; simpa using hv
  obtain ⟨barr, bt, hbg, hbr⟩ : ObjRel C g (.box [.v (.map (some b))]) w := (hobjs.1 ⟨g, rg, .box [.v (.map (some b))]⟩ (by simp)).1
  have hcell : w.cell? ⟨g, 0, none⟩ = some (.map (some b)) := by
    obtain ⟨x, xs, hx, hx1, hx2⟩ := hbr.cons_inv
    cases hx1
    rw [cell_of_row w g 0 barr bt (0, 0) hbg]
    have := congrArg (·[0]?) hx
    simpa using this
  obtain ⟨D0, h1, h2, h3⟩ := map_owned (C := C) hk hes hnd hsz (by unfold maxLen; omega) (hobjs.1 ⟨b, rw', .map es⟩ (by simp)).1
  refine (hf g b _ D0 _ w (Array.getElem?_eq_some_iff.1 hbg).1 hcell h1 (by rw [h3]; unfold maxLen; omega) (by rw [h3]; omega)).mono ?_
  rintro e w' ⟨v, ss', rfl, hp, ⟨hl, hrow⟩, hnil, hb⟩
  have hsort : (ss'.mergeSort (fun x y => decide (x ≤ y))) = ((ss.map (·.data.toList)).mergeSort (fun x y => decide (x ≤ y))) := mergeSort_of_perm (hp.trans h2)
  rw [hsort] at hrow hl
  have hlb : ∀ b o v, C b o = some v → b < w.heap.size := fun b o v hc => by have := World.block_lt_of_cell? w _ (hcom.1 _ _ _ hc).cell; simpa using this
  have hcom' : ∀ b o v, C b o = some v → CellOk w' b o v := fun b o v hc => by
    exact (hcom.1 b o v hc).keep (hb.block b (hlb _ _ _ hc))
  have hlen' : (sortB ss).length = ss'.length := by
    unfold sortB; rw [List.length_map, ← hsort, List.length_mergeSort]
  rcases hrow with ⟨rfl, hn⟩ | ⟨g, cap, cur, rfl, hg, hgb, hcap, _, hcs, htk⟩
  · have hz : sortB ss = [] := List.eq_nil_of_length_eq_zero (by omega)
    refine ⟨_, C, _, [], rfl, ⟨rfl, rfl⟩, hb, fun _ _ _ => rfl, ⟨hcom', hcom.2⟩, ?_, ⟨by simp, by simp⟩, by simp⟩
    rw [hz]
    exact rel_sl_mk 0 0 rfl (Nat.le_refl _) (fun e => absurd rfl e) ⟨fun _ h => by simp at h, fun i cs j c h => by simp at h⟩
  · refine ⟨_, C.add g 0 (cur.toList.take (ss'.length * 1)), _, [], rfl, ⟨rfl, rfl⟩, hb, fun b' o hb' => CS.add_other (by omega), ⟨fun b' o v hc => ?_, fun b' o v hc => ?_⟩, ?_, ⟨by simp, by simp⟩, by simp⟩
    · rcases CS.add_cases hc with ⟨rfl, j, rfl, hj⟩ | hc'
      · refine ⟨?_, fun _ _ => ⟨_, _, hgb⟩⟩
        rw [cell_of_row w' b' _ cur k (0, 0) hgb, Nat.zero_add]
        rw [List.getElem?_take] at hj
        split at hj
        · simpa using hj
        · cases hj
      · exact hcom' _ _ _ hc'
    · rcases CS.add_cases hc with ⟨rfl, j, rfl, hj⟩ | hc'
      · rw [htk] at hj
        obtain ⟨s, _, rfl⟩ := List.mem_map.1 (List.mem_of_getElem? hj)
        rfl
      · exact hcom.2 _ _ _ hc'
    · unfold strsA
      refine rel_sl_mk g 0 (by simp [hlen']) (by simpa [hlen'] using hcap) (fun _ => rfl) ⟨fun cs hcs => ?_, fun i cs j c h1 h2 => ?_⟩
      · obtain ⟨s, _, rfl⟩ := List.mem_map.1 hcs; rfl
      · rw [List.getElem?_map] at h1
        cases hi : (sortB ss)[i]? with
        | none => simp [hi] at h1
        | some s =>
          simp [hi] at h1
          subst h1
          cases j with
          | succ j => simp at h2
          | zero =>
            simp at h2; subst h2
            refine ⟨.string s, ?_, .v _⟩
            have : (cur.toList.take (ss'.length * 1))[i]? = some (.string s) := by
              rw [htk]
              unfold sortB at hi
              rw [List.getElem?_map] at hi ⊢
              cases hq : (List.mergeSort (List.map (fun x : ByteArray => x.data.toList) ss) fun x y => decide (x ≤ y))[i]? with
              | none => simp [hq] at hi
              | some q => simp [hq] at hi ⊢; subst hi; rfl
            have := CS.add_at (C := C) (b := g) (o := 0) this
            simpa using this
end Go.Proofs.YtcbhhjahjnlfhaaDoor.A
namespace Go.Proofs.YtcbhhjahjnlfhaaDoor.A
open Go Go.RowKit
set_option linter.unusedVariables false
set_option linter.unusedSimpArgs false
set_option linter.unusedSectionVars false
variable {P : Program} {w0 : Base} {C0 C : CS} {T : TS} {S S' : AState} {a : Act} {w : World} {ops : Array Oper} {rest : List Oper} {o : Oper} {Q : Exit → AState → Prop}
variable {t : Nat} {ty ty' : TypeId} {pos : String} {aft : Array Edge}
def ltS (a b : ByteArray) : Bool := decide (a.data.toList < b.data.toList)
theorem ba_ext {a b : ByteArray} (h : a.data.toList = b.data.toList) : a = b := by
  cases a; cases b; simp at h; simp [h]
theorem lessB_eq : ∀ (x y : List UInt8), Op.bytesLess x y = decide (x < y)
  | [], [] => by simp [Op.bytesLess]
  | _ :: _, [] => by simp [Op.bytesLess]
  | [], _ :: _ => by simp [Op.bytesLess]
  | a :: x, b :: y => by
    rw [Op.bytesLess, lessB_eq x y]
    simp only [List.cons_lt_cons_iff]
    by_cases h1 : a < b <;> by_cases h2 : a = b <;> by_cases h3 : x < y <;> simp [h1, h2, h3]
theorem ltS_eq (a b : ByteArray) : Op.bytesLess a.toList b.toList = ltS a b := by
  rw [lessB_eq, ByteArray.toList_eq, ByteArray.toList_eq]; rfl
theorem beqS_eq (a b : ByteArray) : (a.toList == b.toList) = decide (a = b) := by
  rw [ByteArray.toList_eq, ByteArray.toList_eq, Bool.eq_iff_iff]
  simp only [beq_iff_eq, decide_eq_true_eq]
  exact ⟨ba_ext, fun e => by rw [e]⟩
theorem ltS_irrefl (a : ByteArray) : ltS a a = false := by simp [ltS, List.lt_irrefl]
theorem ltS_trans {a b c : ByteArray} (h : ltS a b = true) (h' : ltS b c = true) : ltS a c = true := by
  simp only [ltS, decide_eq_true_eq] at *; exact List.lt_trans h h'
theorem ltS_tri {a b : ByteArray} (h : ltS a b = false) (h' : ltS b a = false) : a = b := by
  simp only [ltS, decide_eq_false_iff_not, List.not_lt] at *
  exact ba_ext (List.le_antisymm h' h)
theorem ltS_asymm {a b : ByteArray} (h : ltS a b = true) : ltS b a = false := by
  cases hb : ltS b a with
  | false => rfl
  | true => have := ltS_trans h hb; rw [ltS_irrefl] at this; cases this
def strB2 : BinOp → ByteArray → ByteArray → Option Bool
  | .eql, i, j => some (decide (i = j))
  | .neq, i, j => some (!decide (i = j))
  | .lss, i, j => some (ltS i j)
  | .leq, i, j => some (!ltS j i)
  | .gtr, i, j => some (ltS j i)
  | .geq, i, j => some (!ltS i j)
  | _, _, _ => none
theorem leS_eq (i j : ByteArray) : (ltS i j || decide (i = j)) = !ltS j i := by
  cases h1 : ltS i j with
  | true => rw [ltS_asymm h1]; rfl
  | false =>
    cases h2 : ltS j i with
    | true =>
      have : i ≠ j := fun e => by subst e; rw [ltS_irrefl] at h2; cases h2
      simp [this]
    | false => simp [ltS_tri h1 h2]
theorem strB2_eq {op : BinOp} {i j : ByteArray} {b : Bool} (h : strB2 op i j = some b) : strB op i j = some b := by
  cases op <;> simp only [strB2, strB, Option.some.injEq, reduceCtorEq] at h ⊢ <;> subst h
  · exact beqS_eq i j
  · rw [bne, beqS_eq]
  · exact ltS_eq i j
  · rw [ltS_eq, beqS_eq, leS_eq]
  · rw [ltS_eq, beqS_eq, leS_eq]; simp
  · rw [ltS_eq]
theorem r_str2 {op : BinOp} {xt yt : TypeId} {x y : Operand} {i j : ByteArray} {b : Bool} (hx : S.ev x = some (.a (.v (.string i)))) (hy : S.ev y = some (.a (.v (.string j))))
    (hb : strB2 op i j = some b) (ht : Nat.blt t S.nt = true) (hr : AWL P w0 C0 ops rest Q (S.put t (.a (.v (.bool b))))) :
    AWL P w0 C0 ops (⟨some t, .binOp op xt x y yt, ty, pos, aft, none⟩ :: rest) Q S :=
  r_str hx hy (strB2_eq hb) ht hr
def SortedS (l : List ByteArray) : Prop := l.Pairwise (fun a b => ltS a b = true)
def insS : List ByteArray → ByteArray → List ByteArray
  | [], n => [n]
  | x :: r, n => if ltS x n then x :: insS r n else if x = n then x :: r else n :: x :: r
theorem insS_mem {n x : ByteArray} : ∀ {l : List ByteArray}, x ∈ insS l n ↔ x = n ∨ x ∈ l
  | [] => by simp [insS]
  | y :: r => by
    unfold insS
    split
    · rw [List.mem_cons, insS_mem (l := r), List.mem_cons]
      constructor
      · rintro (h | h | h) <;> simp [h]
      · rintro (h | h | h) <;> simp [h]
    · split
      · rename_i e; subst e
        constructor
        · exact fun h => Or.inr h
        · rintro (h | h)
          · subst h; simp
          · exact h
      · simp
theorem insS_sorted {n : ByteArray} : ∀ {l : List ByteArray}, SortedS l → SortedS (insS l n)
  | [], _ => by simp [insS, SortedS]
  | y :: r, h => by
    have h1 := List.pairwise_cons.1 h
    unfold insS
    split
    · rename_i hl
      refine List.pairwise_cons.2 ⟨fun z hz => ?_, insS_sorted h1.2⟩
      rcases insS_mem.1 hz with rfl | hz
      · exact hl
      · exact h1.1 z hz
    · rename_i hl
      split
      · exact h
      · rename_i hne
        have hny : ltS n y = true := by
          cases hb : ltS n y with
          | true => rfl
          | false => exact absurd (ltS_tri (by simpa using hl) hb) hne
        refine List.pairwise_cons.2 ⟨fun z hz => ?_, h⟩
        rcases List.mem_cons.1 hz with rfl | hz
        · exact hny
        · exact ltS_trans hny (h1.1 z hz)
theorem sortedS_ext : ∀ {l l' : List ByteArray}, SortedS l → SortedS l' → (∀ x, x ∈ l ↔ x ∈ l') → l = l'
  | [], [], _, _, _ => rfl
  | [], y :: r, _, _, h => by have := (h y).2 (by simp); simp at this
  | y :: r, [], _, _, h => by have := (h y).1 (by simp); simp at this
  | x :: r, y :: s, h1, h2, h => by
    have p1 := List.pairwise_cons.1 h1
    have p2 := List.pairwise_cons.1 h2
    have hxy : x = y := by
      rcases List.mem_cons.1 ((h x).1 (by simp)) with e | hx
      · exact e
      · rcases List.mem_cons.1 ((h y).2 (by simp)) with e | hy
        · exact e.symm
        · have a1 := p2.1 x hx
          have a2 := p1.1 y hy
          rw [ltS_asymm a1] at a2; cases a2
    subst hxy
    have hnr : x ∉ r := fun hx => by have := p1.1 x hx; rw [ltS_irrefl] at this; cases this
    have hns : x ∉ s := fun hx => by have := p2.1 x hx; rw [ltS_irrefl] at this; cases this
    rw [sortedS_ext p1.2 p2.2 (fun z => ?_)]
    constructor
    · intro hz
      rcases List.mem_cons.1 ((h z).1 (by simp [hz])) with e | hz'
      · subst e; exact absurd hz hnr
      · exact hz'
    · intro hz
      rcases List.mem_cons.1 ((h z).2 (by simp [hz])) with e | hz'
      · subst e; exact absurd hz hns
      · exact hz'
theorem sortB_mem {l : List ByteArray} {x : ByteArray} : x ∈ sortB l ↔ x ∈ l := by
  unfold sortB
  rw [List.mem_map]
  constructor
  · rintro ⟨y, hy, rfl⟩
    rw [List.mem_mergeSort] at hy
    obtain ⟨z, hz, rfl⟩ := List.mem_map.1 hy
    exact hz
  · intro hx
    exact ⟨x.data.toList, by rw [List.mem_mergeSort]; exact List.mem_map.2 ⟨x, hx, rfl⟩, rfl⟩
theorem sortB_sorted {l : List ByteArray} (hn : l.Nodup) : SortedS (sortB l) := by
  have hs : (List.mergeSort (l.map (·.data.toList)) (fun x y => decide (x ≤ y))).Pairwise (fun x y => decide (x ≤ y) = true) :=
    List.pairwise_mergeSort (fun a b c h1 h2 => by simp only [decide_eq_true_eq] at *; exact List.le_trans h1 h2) (fun a b => by simp only [Bool.or_eq_true, decide_eq_true_eq]; exact List.le_total a b) _
  have hd : (List.mergeSort (l.map (·.data.toList)) (fun x y => decide (x ≤ y))).Nodup := by
    refine (List.mergeSort_perm _ _).nodup_iff.2 (List.pairwise_map.2 (hn.imp (fun hne e => hne (ba_ext e))))
  unfold SortedS sortB
  rw [List.pairwise_map]
  refine (List.Pairwise.and hs hd).imp (fun {x y} h => ?_)
  simp only [ltS, decide_eq_true_eq] at h ⊢
  rcases List.le_iff_lt_or_eq.1 h.1 with h1 | h1
  · simpa using h1
  · exact absurd h1 h.2
section
variable {K α : Type} [DecidableEq K]
theorem mget_mset (m : List (K × α)) (k k' : K) (v : α) : mget (mset m k v) k' = if k = k' then some v else mget m k' := by
  induction m with
  | nil => simp [mset, mget]
  | cons p r ih =>
    obtain ⟨x, u⟩ := p
    unfold mset
    split
    · rename_i e; subst e; unfold mget; split <;> rfl
    · rename_i e
      unfold mget
      split
      · rename_i e'; subst e'; rw [if_neg (fun h => e h.symm)]
      · exact ih
theorem mset_keys {m : List (K × α)} {k x : K} {v : α} : x ∈ (mset m k v).map (·.1) ↔ x = k ∨ x ∈ m.map (·.1) := by
  induction m with
  | nil => simp [mset]
  | cons p r ih =>
    obtain ⟨y, u⟩ := p
    unfold mset
    split
    · rename_i e; subst e; simp
    · rw [List.map_cons, List.mem_cons, ih, List.map_cons, List.mem_cons]
      constructor
      · rintro (h | h | h) <;> simp [h]
      · rintro (h | h | h) <;> simp [h]
theorem mset_nodup {m : List (K × α)} {k : K} {v : α} (h : (m.map (·.1)).Nodup) : ((mset m k v).map (·.1)).Nodup := by
  induction m with
  | nil => simp [mset]
  | cons p r ih =>
    obtain ⟨y, u⟩ := p
    have h1 := List.nodup_cons.1 h
    unfold mset
    split
    · rename_i e; subst e; exact h
    · rename_i e
      refine List.nodup_cons.2 ⟨fun hm => ?_, ih h1.2⟩
      rcases mset_keys.1 hm with e' | hm
      · exact e e'
      · exact h1.1 hm
theorem mset_len {m : List (K × α)} {k : K} {v : α} : (mset m k v).length ≤ m.length + 1 := by
  induction m with
  | nil => simp [mset]
  | cons p r ih =>
    obtain ⟨y, u⟩ := p
    unfold mset
    split
    · simp
    · simp; omega
theorem mget_some {m : List (K × α)} {k : K} : (mget m k).isSome = true ↔ k ∈ m.map (·.1) := by
  induction m with
  | nil => simp [mget]
  | cons p r ih =>
    obtain ⟨y, u⟩ := p
    unfold mget
    split
    · rename_i e; subst e; simp
    · rename_i e; rw [ih, List.map_cons, List.mem_cons]
      constructor
      · exact Or.inr
      · rintro (h | h)
        · exact absurd h.symm e
        · exact h
theorem encM_keys {ek : K → Value} {ev : α → AV} (m : List (K × α)) : (encM ek ev m).map (·.1) = (m.map (·.1)).map ek := by simp [encM]
theorem encM_len {ek : K → Value} {ev : α → AV} (m : List (K × α)) : (encM ek ev m).length = m.length := by simp [encM]
end
theorem insS_len {n : ByteArray} : ∀ {l : List ByteArray}, (insS l n).length ≤ l.length + 1
  | [] => by simp [insS]
  | y :: r => by
    unfold insS
    split
    · have := insS_len (n := n) (l := r); simp; omega
    · split <;> simp
theorem sortB_len (l : List ByteArray) : (sortB l).length = l.length := by simp [sortB, List.length_mergeSort]
theorem takeS {α : Type} {l : List α} {k : Nat} {x : α} (h : l[k]? = some x) : l.take (k + 1) = l.take k ++ [x] := by
  rw [List.take_add_one, h]; rfl
theorem fold_take {α β : Type} {f : β → α → β} {b : β} {l : List α} {k : Nat} {x : α} (h : l[k]? = some x) : (l.take (k + 1)).foldl f b = f ((l.take k).foldl f b) x := by
  rw [takeS h, List.foldl_append]; rfl
theorem map_take {α β : Type} {f : α → β} {l : List α} {k : Nat} {x : α} (h : l[k]? = some x) : (l.take (k + 1)).map f = (l.take k).map f ++ [f x] := by
  rw [takeS h, List.map_append]; rfl
theorem fidx_step {α : Type} {p : α → Bool} {l : List α} {k : Nat} {x : α} (h : l[k]? = some x) (hp : p x = false) (hn : (l.take k).findIdx? p = none) : (l.take (k + 1)).findIdx? p = none := by
  rw [takeS h]
  simp only [List.findIdx?_eq_none_iff] at hn ⊢
  intro y hy
  rcases List.mem_append.1 hy with hy | hy
  · exact hn y hy
  · simp at hy; subst hy; exact hp
theorem fidx_hit {α : Type} {p : α → Bool} {l : List α} {k : Nat} {x : α} (h : l[k]? = some x) (hp : p x = true) (hn : (l.take k).findIdx? p = none) : l.findIdx? p = some k := by
  have hk := (List.getElem?_eq_some_iff.1 h)
  obtain ⟨hk1, hk2⟩ := hk
  rw [List.findIdx?_eq_some_iff_getElem]
  refine ⟨hk1, by rw [hk2]; exact hp, fun j hj => ?_⟩
  rw [List.findIdx?_eq_none_iff] at hn
  have : l[j] ∈ l.take k := by
    rw [List.mem_iff_getElem?]
    exact ⟨j, by rw [List.getElem?_take, if_pos hj]; exact List.getElem?_eq_getElem _⟩
  have := hn _ this
  simp [this]
theorem fidx_end {α : Type} {p : α → Bool} {l : List α} {k : Nat} (h : l.length ≤ k) (hn : (l.take k).findIdx? p = none) : l.findIdx? p = none := by
  rwa [List.take_of_length_le h] at hn
def optI : Option Nat → Int
  | some k => k
  | none => -1
theorem optI_some {o : Option Nat} (h : 0 ≤ optI o) : ∃ k, o = some k := by
  cases o with
  | some k => exact ⟨k, rfl⟩
  | none => simp [optI] at h
theorem optI_none {o : Option Nat} (h : optI o < 0) : o = none := by
  cases o with
  | some k => simp [optI] at h; omega
  | none => rfl
theorem fidx_get {α : Type} {p : α → Bool} {l : List α} {k : Nat} (h : l.findIdx? p = some k) : ∃ x, l[k]? = some x ∧ p x = true := by
  rw [List.findIdx?_eq_some_iff_getElem] at h
  obtain ⟨h1, h2, _⟩ := h
  exact ⟨l[k], List.getElem?_eq_getElem h1, h2⟩
end Go.Proofs.YtcbhhjahjnlfhaaDoor.A
namespace Go.Proofs
open Go.Shelf
def Tryd.keys82_ren : Go.Shelf.Ren := ⟨fun | 7 => 82 | 10 => 103 | n => n, fun | 23 => 98 | 26 => 9 | 3 => 63 | 28 => 141 | 0 => 0 | 27 => 140 | 33 => 113 | 4 => 4 | n => n, fun | n => n⟩
theorem Tryd.keys82 : Go.Proofs.SlLaysZ.n7 Tryd.prog Tryd.keys82_ren := {
  mixed := by kernel_rfl
  f7 := ⟨Tryd.f82.name, by decide, Tryd.func82.trans (congrArg some (by kernel_rfl))⟩
  f10 := ⟨Tryd.f103.name, by decide, Tryd.func103.trans (congrArg some (by kernel_rfl))⟩
  t0 := Tryd.underlying0
  a0 := Tryd.isAgg0
  z0 := Tryd.sizeOf0
  v0 := Tryd.zeroValue0
  t4 := Tryd.underlying4
  a4 := Tryd.isAgg4
  z4 := Tryd.sizeOf4
  v4 := Tryd.zeroValue4
  t23 := Tryd.underlying98
  a23 := Tryd.isAgg98
  z23 := Tryd.sizeOf98
  v23 := Tryd.zeroValue98
  t26 := Tryd.underlying9
  a26 := Tryd.isAgg9
  z26 := Tryd.sizeOf9
  v26 := Tryd.zeroValue9
  t27 := Tryd.underlying140
  a27 := Tryd.isAgg140
  z27 := Tryd.sizeOf140
  v27 := Tryd.zeroValue140
  t28 := Tryd.underlying141
  a28 := Tryd.isAgg141
  z28 := Tryd.sizeOf141
  v28 := Tryd.zeroValue141
  t33 := Tryd.underlying113
  a33 := Tryd.isAgg113
  z33 := Tryd.sizeOf113
  v33 := Tryd.zeroValue113 }
def Tryd.sorted81_ren : Go.Shelf.Ren := ⟨fun | 6 => 81 | 8 => 101 | 9 => 102 | 11 => 112 | 13 => 114 | 12 => 113 | 23 => 125 | 24 => 126 | 14 => 116 | 15 => 117 | 16 => 118 | 17 => 119 | 18 => 120 | 19 => 121 | 20 => 122 | 21 => 123 | 22 => 124 | 25 => 127 | 26 => 128 | 27 => 129 | 28 => 130 | 29 => 131 | 30 => 132 | 31 => 133 | n => n, fun | 26 => 9 | 28 => 141 | 24 => 54 | 0 => 0 | 3 => 3 | 37 => 134 | 48 => 159 | 50 => 47 | 4 => 4 | 40 => 164 | 39 => 163 | 45 => 168 | 5 => 5 | 9 => 9 | 51 => 172 | 55 => 176 | 57 => 178 | 58 => 179 | 33 => 113 | n => n, fun | n => n⟩
theorem Tryd.sorted81 : Go.Proofs.SlLaysZ.n6 Tryd.prog Tryd.sorted81_ren := {
  mixed := by kernel_rfl
  f6 := ⟨Tryd.f81.name, by decide, Tryd.func81.trans (congrArg some (by kernel_rfl))⟩
  f8 := ⟨Tryd.f101.name, by decide, Tryd.func101.trans (congrArg some (by kernel_rfl))⟩
  f11 := ⟨Tryd.f112.name, by decide, Tryd.func112.trans (congrArg some (by kernel_rfl))⟩
  t0 := Tryd.underlying0
  a0 := Tryd.isAgg0
  z0 := Tryd.sizeOf0
  v0 := Tryd.zeroValue0
  t24 := Tryd.underlying54
  a24 := Tryd.isAgg54
  z24 := Tryd.sizeOf54
  v24 := Tryd.zeroValue54
  t26 := Tryd.underlying9
  a26 := Tryd.isAgg9
  z26 := Tryd.sizeOf9
  v26 := Tryd.zeroValue9
  t28 := Tryd.underlying141
  a28 := Tryd.isAgg141
  z28 := Tryd.sizeOf141
  v28 := Tryd.zeroValue141
  i26 := by kernel_rfl }
def Tryd.sort102_ren : Go.Shelf.Ren := ⟨fun | 6 => 102 | 8 => 114 | 9 => 113 | 19 => 125 | 20 => 126 | 21 => 116 | 22 => 117 | 23 => 118 | 24 => 119 | 25 => 120 | 26 => 121 | 27 => 122 | 28 => 123 | 29 => 124 | 36 => 127 | 31 => 128 | 32 => 129 | 37 => 130 | 38 => 131 | 39 => 132 | 41 => 133 | n => n, fun | 27 => 54 | 29 => 9 | 3 => 3 | 32 => 134 | 26 => 54 | 0 => 0 | 44 => 159 | 46 => 47 | 4 => 4 | 36 => 164 | 35 => 163 | 41 => 168 | 5 => 5 | 9 => 9 | 53 => 172 | 57 => 176 | 63 => 178 | 64 => 179 | n => n, fun | n => n⟩
theorem Tryd.sort102 : Go.Proofs.SlLaysM.n6 Tryd.prog Tryd.sort102_ren := {
  mixed := by kernel_rfl
  f6 := ⟨Tryd.f102.name, by decide, Tryd.func102.trans (congrArg some (by kernel_rfl))⟩
  f8 := Tryd.func114.trans (congrArg some (by kernel_rfl))
  f9 := ⟨Tryd.f113.name, by decide, Tryd.func113.trans (congrArg some (by kernel_rfl))⟩
  f19 := Tryd.func125.trans (congrArg some (by kernel_rfl))
  f20 := Tryd.func126.trans (congrArg some (by kernel_rfl))
  f21 := ⟨Tryd.f116.name, by decide, Tryd.func116.trans (congrArg some (by kernel_rfl))⟩
  f22 := ⟨Tryd.f117.name, by decide, Tryd.func117.trans (congrArg some (by kernel_rfl))⟩
  f23 := ⟨Tryd.f118.name, by decide, Tryd.func118.trans (congrArg some (by kernel_rfl))⟩
  f24 := ⟨Tryd.f119.name, by decide, Tryd.func119.trans (congrArg some (by kernel_rfl))⟩
  f25 := ⟨Tryd.f120.name, by decide, Tryd.func120.trans (congrArg some (by kernel_rfl))⟩
  f26 := ⟨Tryd.f121.name, by decide, Tryd.func121.trans (congrArg some (by kernel_rfl))⟩
  f27 := ⟨Tryd.f122.name, by decide, Tryd.func122.trans (congrArg some (by kernel_rfl))⟩
  f28 := ⟨Tryd.f123.name, by decide, Tryd.func123.trans (congrArg some (by kernel_rfl))⟩
  f29 := ⟨Tryd.f124.name, by decide, Tryd.func124.trans (congrArg some (by kernel_rfl))⟩
  f31 := Tryd.func128.trans (congrArg some (by kernel_rfl))
  f32 := Tryd.func129.trans (congrArg some (by kernel_rfl))
  f36 := ⟨Tryd.f127.name, by decide, Tryd.func127.trans (congrArg some (by kernel_rfl))⟩
  f37 := ⟨Tryd.f130.name, by decide, Tryd.func130.trans (congrArg some (by kernel_rfl))⟩
  f38 := ⟨Tryd.f131.name, by decide, Tryd.func131.trans (congrArg some (by kernel_rfl))⟩
  f39 := ⟨Tryd.f132.name, by decide, Tryd.func132.trans (congrArg some (by kernel_rfl))⟩
  f41 := ⟨Tryd.f133.name, by decide, Tryd.func133.trans (congrArg some (by kernel_rfl))⟩
  t0 := Tryd.underlying0
  a0 := Tryd.isAgg0
  z0 := Tryd.sizeOf0
  v0 := Tryd.zeroValue0
  t3 := Tryd.underlying3
  a3 := Tryd.isAgg3
  z3 := Tryd.sizeOf3
  v3 := Tryd.zeroValue3
  t4 := Tryd.underlying4
  a4 := Tryd.isAgg4
  z4 := Tryd.sizeOf4
  v4 := Tryd.zeroValue4
  t5 := Tryd.underlying5
  a5 := Tryd.isAgg5
  z5 := Tryd.sizeOf5
  v5 := Tryd.zeroValue5
  t9 := Tryd.underlying9
  a9 := Tryd.isAgg9
  z9 := Tryd.sizeOf9
  v9 := Tryd.zeroValue9
  t26 := Tryd.underlying54
  a26 := Tryd.isAgg54
  z26 := Tryd.sizeOf54
  v26 := Tryd.zeroValue54
  t27 := Tryd.underlying54
  a27 := Tryd.isAgg54
  z27 := Tryd.sizeOf54
  v27 := Tryd.zeroValue54
  t29 := Tryd.underlying9
  a29 := Tryd.isAgg9
  z29 := Tryd.sizeOf9
  v29 := Tryd.zeroValue9
  t32 := Tryd.underlying134
  a32 := Tryd.isAgg134
  z32 := Tryd.sizeOf134
  v32 := Tryd.zeroValue134
  t35 := Tryd.underlying163
  a35 := Tryd.isAgg163
  z35 := Tryd.sizeOf163
  v35 := Tryd.zeroValue163
  t36 := Tryd.underlying164
  a36 := Tryd.isAgg164
  z36 := Tryd.sizeOf164
  v36 := Tryd.zeroValue164
  t41 := Tryd.underlying168
  a41 := Tryd.isAgg168
  z41 := Tryd.sizeOf168
  v41 := Tryd.zeroValue168
  t44 := Tryd.underlying159
  a44 := Tryd.isAgg159
  z44 := Tryd.sizeOf159
  v44 := Tryd.zeroValue159
  t46 := Tryd.underlying47
  a46 := Tryd.isAgg47
  z46 := Tryd.sizeOf47
  v46 := Tryd.zeroValue47
  t53 := Tryd.underlying172
  a53 := Tryd.isAgg172
  z53 := Tryd.sizeOf172
  v53 := Tryd.zeroValue172
  t57 := Tryd.underlying176
  a57 := Tryd.isAgg176
  z57 := Tryd.sizeOf176
  v57 := Tryd.zeroValue176
  t63 := Tryd.underlying178
  a63 := Tryd.isAgg178
  z63 := Tryd.sizeOf178
  v63 := Tryd.zeroValue178
  t64 := Tryd.underlying179
  a64 := Tryd.isAgg179
  z64 := Tryd.sizeOf179
  v64 := Tryd.zeroValue179 }
def Tryd.keys83_ren : Go.Shelf.Ren := ⟨fun | 7 => 83 | 10 => 104 | n => n, fun | 23 => 100 | 26 => 9 | 3 => 4 | 28 => 141 | 0 => 0 | 27 => 140 | 33 => 113 | 4 => 4 | n => n, fun | n => n⟩
theorem Tryd.keys83 : Go.Proofs.SlLaysZ.n7 Tryd.prog Tryd.keys83_ren := {
  mixed := by kernel_rfl
  f7 := ⟨Tryd.f83.name, by decide, Tryd.func83.trans (congrArg some (by kernel_rfl))⟩
  f10 := ⟨Tryd.f104.name, by decide, Tryd.func104.trans (congrArg some (by kernel_rfl))⟩
  t0 := Tryd.underlying0
  a0 := Tryd.isAgg0
  z0 := Tryd.sizeOf0
  v0 := Tryd.zeroValue0
  t4 := Tryd.underlying4
  a4 := Tryd.isAgg4
  z4 := Tryd.sizeOf4
  v4 := Tryd.zeroValue4
  t23 := Tryd.underlying100
  a23 := Tryd.isAgg100
  z23 := Tryd.sizeOf100
  v23 := Tryd.zeroValue100
  t26 := Tryd.underlying9
  a26 := Tryd.isAgg9
  z26 := Tryd.sizeOf9
  v26 := Tryd.zeroValue9
  t27 := Tryd.underlying140
  a27 := Tryd.isAgg140
  z27 := Tryd.sizeOf140
  v27 := Tryd.zeroValue140
  t28 := Tryd.underlying141
  a28 := Tryd.isAgg141
  z28 := Tryd.sizeOf141
  v28 := Tryd.zeroValue141
  t33 := Tryd.underlying113
  a33 := Tryd.isAgg113
  z33 := Tryd.sizeOf113
  v33 := Tryd.zeroValue113 }
def Tryd.keys86_ren : Go.Shelf.Ren := ⟨fun | 7 => 86 | 10 => 105 | n => n, fun | 23 => 109 | 26 => 9 | 3 => 22 | 28 => 141 | 0 => 0 | 27 => 140 | 33 => 113 | 4 => 4 | n => n, fun | n => n⟩
theorem Tryd.keys86 : Go.Proofs.SlLaysZ.n7 Tryd.prog Tryd.keys86_ren := {
  mixed := by kernel_rfl
  f7 := ⟨Tryd.f86.name, by decide, Tryd.func86.trans (congrArg some (by kernel_rfl))⟩
  f10 := ⟨Tryd.f105.name, by decide, Tryd.func105.trans (congrArg some (by kernel_rfl))⟩
  t0 := Tryd.underlying0
  a0 := Tryd.isAgg0
  z0 := Tryd.sizeOf0
  v0 := Tryd.zeroValue0
  t4 := Tryd.underlying4
  a4 := Tryd.isAgg4
  z4 := Tryd.sizeOf4
  v4 := Tryd.zeroValue4
  t23 := Tryd.underlying109
  a23 := Tryd.isAgg109
  z23 := Tryd.sizeOf109
  v23 := Tryd.zeroValue109
  t26 := Tryd.underlying9
  a26 := Tryd.isAgg9
  z26 := Tryd.sizeOf9
  v26 := Tryd.zeroValue9
  t27 := Tryd.underlying140
  a27 := Tryd.isAgg140
  z27 := Tryd.sizeOf140
  v27 := Tryd.zeroValue140
  t28 := Tryd.underlying141
  a28 := Tryd.isAgg141
  z28 := Tryd.sizeOf141
  v28 := Tryd.zeroValue141
  t33 := Tryd.underlying113
  a33 := Tryd.isAgg113
  z33 := Tryd.sizeOf113
  v33 := Tryd.zeroValue113 }
end Go.Proofs
namespace Go.Proofs.YtcbhhjahjnlfhaaDoor.A
open Go Go.RowKit Go.Maps Go.Sort Go.Shelf
theorem sorts81 (m : Nat) : AnyZ.SortsIn Tryd.prog Tryd.sorted81_ren Fence.wide m :=
  ⟨fun blk off cap ss W hH hblk hsz => callsIn_wide.2 (AnyM.slices_Sort_string Tryd.sort102 blk off cap ss W hH hblk hsz), fun p cap W => callsIn_wide.2 (AnyM.slices_Sort_string_none Tryd.sort102 p cap W)⟩
theorem keys82 : KeysAs Tryd.prog 82 103 98 := fun mb W => (callsIn_wide (n := 5)).1 (AnyZ.keys_in Tryd.keys82 Fence.wide 5 trivial rfl mb W)
theorem sorted81_82 : SortsIt Tryd.prog 81 103 9 := fun g b nn D0 R w hg hc hown hmax hbytes =>
  (callsIn_wide (n := 5)).1 (AnyZ.sorted_in Tryd.sorted81 Fence.wide 5 trivial trivial trivial trivial rfl (by omega) (sorts81 _) (enters_of (f := 102) Tryd.func102 (by kernel_rfl) rfl) 103 #[.pointer (some ⟨g, 0, none⟩)] trivial (enters_of (f := 103) Tryd.func103 (by kernel_rfl) rfl) _ _ hmax hbytes _
    (AnyZ.keys_gives (ρ := Tryd.keys82_ren) { Tryd.keys82 with } Fence.wide _ trivial rfl (by omega) g b nn D0 w hg hc hown))
theorem keys83 : KeysAs Tryd.prog 83 104 100 := fun mb W => (callsIn_wide (n := 5)).1 (AnyZ.keys_in Tryd.keys83 Fence.wide 5 trivial rfl mb W)
theorem sorted81_83 : SortsIt Tryd.prog 81 104 9 := fun g b nn D0 R w hg hc hown hmax hbytes =>
  (callsIn_wide (n := 5)).1 (AnyZ.sorted_in Tryd.sorted81 Fence.wide 5 trivial trivial trivial trivial rfl (by omega) (sorts81 _) (enters_of (f := 102) Tryd.func102 (by kernel_rfl) rfl) 104 #[.pointer (some ⟨g, 0, none⟩)] trivial (enters_of (f := 104) Tryd.func104 (by kernel_rfl) rfl) _ _ hmax hbytes _
    (AnyZ.keys_gives (ρ := Tryd.keys83_ren) { Tryd.keys83 with } Fence.wide _ trivial rfl (by omega) g b nn D0 w hg hc hown))
theorem keys86 : KeysAs Tryd.prog 86 105 109 := fun mb W => (callsIn_wide (n := 5)).1 (AnyZ.keys_in Tryd.keys86 Fence.wide 5 trivial rfl mb W)
theorem sorted81_86 : SortsIt Tryd.prog 81 105 9 := fun g b nn D0 R w hg hc hown hmax hbytes =>
  (callsIn_wide (n := 5)).1 (AnyZ.sorted_in Tryd.sorted81 Fence.wide 5 trivial trivial trivial trivial rfl (by omega) (sorts81 _) (enters_of (f := 102) Tryd.func102 (by kernel_rfl) rfl) 105 #[.pointer (some ⟨g, 0, none⟩)] trivial (enters_of (f := 105) Tryd.func105 (by kernel_rfl) rfl) _ _ hmax hbytes _
    (AnyZ.keys_gives (ρ := Tryd.keys86_ren) { Tryd.keys86 with } Fence.wide _ trivial rfl (by omega) g b nn D0 w hg hc hown))
end Go.Proofs.YtcbhhjahjnlfhaaDoor.A
namespace Go.Proofs.YtcbhhjahjnlfhaaDoor.A
open Go Go.RowKit
set_option linter.unusedVariables false
set_option linter.unusedSimpArgs false
set_option linter.unusedSectionVars false
variable {P : Program} {w0 : Base} {C0 C : CS} {T : TS} {S S' : AState} {a : Act} {w : World} {ops : Array Oper} {rest : List Oper} {o : Oper} {Q : Exit → AState → Prop}
structure BoxR (P : Program) (p ty : Nat) (S : AState) (r : AV) : Prop where
  ex : ∃ (b i : Nat) (rw' : Bool) (cs : List AV), S.get p = some (.a (.v (.pointer (some ⟨b, 0, none⟩)))) ∧ S.objs[i]? = some ⟨b, rw', .box cs⟩ ∧ aggT P ty = some true ∧ szT P ty = some cs.length ∧ r = .agg cs
theorem BoxR.mk' {p ty b : Nat} (i : Nat) {rw' : Bool} {cs : List AV} (hp : S.get p = some (.a (.v (.pointer (some ⟨b, 0, none⟩))))) (hi : S.objs[i]? = some ⟨b, rw', .box cs⟩) (hA : aggT P ty = some true) {n : Nat} (hn : szT P ty = some n) (hl : Nat.beq n cs.length = true) : BoxR P p ty S (.agg cs) :=
  ⟨b, i, rw', cs, hp, hi, hA, by rw [hn, Nat.eq_of_beq_eq_true hl], rfl⟩
theorem BoxR.run {p ty : Nat} {r : AV} (hs : SimC w0 C0 C T S a w) (h : BoxR P p ty S r) : ∃ ad v, (asAddr (a.tmps.getD p undef)).run P w = .ok ad w ∧ (loadVar ty ad).run P w = .ok v w ∧ Rel C r v := by
  obtain ⟨b, i, rw', cs, hp, hi, hA, hn, rfl⟩ := h.ex
  have hv := hs.slots _ _ hp
  have hv' : a.tmps.getD p undef = .pointer (some ⟨b, 0, none⟩) := by generalize a.tmps.getD p undef = u at hv; cases hv; rfl
  obtain ⟨arr0, g1, g2⟩ := box_cells (hs.objs _ (mem_of_get hi)).1
  have hl : arr0.length = cs.length := g1.1
  refine ⟨⟨b, 0, none⟩, .agg arr0.toArray, by rw [hv']; simp [asAddr], ?_, rel_agg.2 (by simpa using g1)⟩
  have := run_loadVarA (P := P) (w := w) (b := b) (o := 0) hA hn hl (fun j u hj => by rw [Nat.zero_add]; exact g2 j u hj)
  simpa using this
end Go.Proofs.YtcbhhjahjnlfhaaDoor.A
namespace Go.Proofs.YtcbhhjahjnlfhaaDoor.A
open Go Go.RowKit
set_option linter.unusedVariables false
set_option linter.unusedSimpArgs false
set_option linter.unusedSectionVars false
variable {P : Program} {w0 : Base} {C0 C : CS} {T : TS} {S S' : AState} {a : Act} {w : World} {ops : Array Oper} {rest : List Oper} {o : Oper} {Q : Exit → AState → Prop}
variable {t : Nat} {ty ty' : TypeId} {pos : String} {aft : Array Edge} {rn : Option Nat}
def Fr (rn : Option Nat) : Fence := { Fence.wide with round := rn }
theorem callsIn_fr {f : FuncId} {args : Array Value} {R : Ending → World → Prop} (n : Nat) (h : Calls P f args w R) : CallsIn (Fr rn) n P f args w R := (callsIn_wide (n := n)).2 h
theorem rowsIn_fr {row : String} {args : Array Value} {R : Value → World → Prop} (n : Nat) (h : Rows P row args w R) : RowsIn (Fr rn) n P row args w R :=
  fun c cs _ => let ⟨v, w', h1, h2⟩ := h c cs; ⟨v, w', h1, stepsIn_wide.2 h2⟩
def AWLI (rn : Option Nat) (P : Program) (w0 : Base) (C0 : CS) (ops : Array Oper) (l : List Oper) (Q : Exit → AState → Prop) (S : AState) : Prop :=
  ∀ a w, Sim w0 C0 S a w → wpListIn (Fr rn) 0 P ops (Lift w0 C0 Q) l a w
def AWPI (rn : Option Nat) (P : Program) (w0 : Base) (C0 : CS) (c : Code) (Q : Exit → AState → Prop) (S : AState) : Prop :=
  ∀ a w, Sim w0 C0 S a w → c.wpIn (Fr rn) 0 P (Lift w0 C0 Q) a w
theorem awli_nil (h : Q .normal S) : AWLI rn P w0 C0 ops [] Q S := fun _ _ hs => ⟨S, hs, h⟩
theorem awli_op (ho : ∀ c, o.op ≠ .defer c) (h : AWL P w0 C0 ops [o] (fun e S' => e = .normal ∧ AWLI rn P w0 C0 ops rest Q S') S) : AWLI rn P w0 C0 ops (o :: rest) Q S := by
  intro a w hs
  have h1 := h a w hs
  unfold wpList at h1
  unfold wpListIn
  by_cases hw : Region.wanted o (yielded ops a.tmps) = true
  · rw [if_pos hw] at h1 ⊢
    have h2 : o.wp P a w (wpList P ops (Lift w0 C0 (fun e S' => e = .normal ∧ AWLI rn P w0 C0 ops rest Q S')) []) (Lift w0 C0 (fun e S' => e = .normal ∧ AWLI rn P w0 C0 ops rest Q S')) := by
      rcases h1 with h1 | ⟨_, a1, w1, S1, _, he, _⟩
      · exact h1
      · cases he
    have hn : ∀ a1 w1, wpList P ops (Lift w0 C0 (fun e S' => e = .normal ∧ AWLI rn P w0 C0 ops rest Q S')) [] a1 w1 → wpListIn (Fr rn) 0 P ops (Lift w0 C0 Q) rest a1 w1 := by
      rintro a1 w1 ⟨S1, hs1, _, h⟩
      exact h a1 w1 hs1
    refine ⟨fun _ _ => trivial, ?_⟩
    rw [Oper.semAt_eq _ _ _ ho]
    unfold Oper.wp at h2
    generalize (execOp a.eval o).run P w = res at h2
    cases res with
    | ok x w1 =>
      cases x with
      | value v => exact hn _ _ h2
      | skip => exact hn _ _ h2
      | defer d => exact hn _ _ h2
      | enter f args =>
        refine ⟨fun h => by simp [Fr, Fence.wide] at h, callsIn_fr _ (Calls.mono h2 ?_)⟩
        intro e w2 he
        cases e with
        | returned v => exact hn _ _ he
        | panicked chain => obtain ⟨S1, _, he, _⟩ := he; cases he
        | outgrown => obtain ⟨a1, w1, S1, _, he, _⟩ := he; cases he
      | row r args => exact ⟨fun h => by simp [Fr, Fence.wide] at h, rowsIn_fr _ (h2.mono fun v w' h => hn _ _ h)⟩
      | _ => exact h2.elim
    | halt x w1 =>
      cases x with
      | panic v => obtain ⟨S1, _, he, _⟩ := h2; cases he
      | _ => exact h2.elim
  · rw [if_neg hw] at h1 ⊢
    obtain ⟨S1, hs1, _, h⟩ := h1
    exact ⟨fun _ _ => trivial, h _ _ hs1⟩
theorem awp_regionI {id : Nat} {l : List Oper} (h : AWLI none P w0 C0 l.toArray l Q S) : AWP P w0 C0 (.region id l.toArray false) Q S :=
  fun a w hs => wpIn_wide.1 (wpIn_region_lit (h a w hs))
theorem awpi_region {id : Nat} {l : List Oper} (h : AWLI rn P w0 C0 l.toArray l Q S) : AWPI rn P w0 C0 (.region id l.toArray false) Q S :=
  fun a w hs => wpIn_region_lit (h a w hs)
theorem awpi_block {id : Nat} {c : Code} (h : AWPI rn P w0 C0 c (XBlock id Q) S) : AWPI rn P w0 C0 (.block id c) Q S := by
  intro a w hs
  refine wpIn_block (wpIn_mono (h a w hs) ?_)
  rintro e a' w' ⟨S1, hs1, hq⟩
  cases e with
  | exit id' =>
    by_cases hid : id' = id
    · simp only [XBlock, hid, if_true] at hq; simp only [Exit.inBlock, hid, if_true]; exact ⟨S1, hs1, hq⟩
    · simp only [XBlock, hid, if_false] at hq; simp only [Exit.inBlock, hid, if_false]; exact ⟨S1, hs1, hq⟩
  | _ => exact ⟨S1, hs1, hq⟩
def YC (Cs : CS) (P : Program) (l : Nat) (x : List AV) (wo : List OE) (R : List OE → Prop) : Prop :=
  ∀ (C : CS) (w : World) (vals : Array Value), (∀ b o v, Cs b o = some v → C b o = some v) → Com C w → Rels C x vals.toList → Objs C wo w →
    YieldAt Fence.wide 0 P l vals w (fun e w' => e = .returned (.bool true) ∧ ∃ C' nobjs, R nobjs ∧ BelowX w.heap.size (WB wo) w w' ∧ (∀ b o, b < w.heap.size → ¬ WB wo b → C' b o = C b o) ∧ Com C' w' ∧ Objs C' nobjs w' ∧ ∀ e ∈ nobjs, w.heap.size ≤ e.b ∨ WB wo e.b)
theorem YC.tr {Cs : CS} {l : Nat} {x : List AV} {wo : List OE} {R : List OE → Prop} (h : YC Cs P l x wo R) : YC Cs P l x (Tr wo) R := by
  have e : WB (Tr wo) = WB wo := funext fun b => propext wb_tr
  intro C w vals h0 h1 h2 h3
  rw [e]
  exact h C w vals h0 h1 h2 h3.untr
def IterC (P : Program) (it : Nat) (caps : List AV) (rd : List OE) (A : List (List AV) → List AV → Prop) (G : List (List AV) → Prop) : Prop :=
  ∀ (l : Nat) (Cs : CS) (J : List (List AV) → List OE → Prop), (∀ pre x wo, J pre wo → A pre x → YC Cs P l x wo (J (pre ++ [x]))) → ∀ wo, J [] wo →
    AWC Cs P it (.v (.func (.yield l) #[] #[]) :: caps) rd wo (fun _ nobjs => ∃ xs wo', G xs ∧ J xs wo' ∧ nobjs = Tr wo')
theorem r_yield {x : Operand} {xs : List Operand} {xa : Array Operand} {tys : Array TypeId} {l : Nat} {args : List AV} {wo un : List OE} {R : List OE → Prop} (hq : w0.q = false) (mk : List OE → List OE) (hx : S.ev x = some (.a (.v (.func (.yield l) #[] #[])))) (hxa : xa = xs.toArray) (hargs : Args S xs args)
    (Cs : CS) (hcs : CsOk Cs w0 C0) (hy : YC Cs P l args wo R) (hp : (Tr wo ++ un).Perm S.objs) (hmk : ∀ nobjs, (Tr nobjs ++ un).Perm (mk nobjs)) (ht : Nat.blt t S.nt = true)
    (hr : ∀ nobjs, R nobjs → AWLI none P w0 C0 ops rest Q (AState.put ⟨S.nt, S.slots, mk nobjs⟩ t (.a (.v (.bool true))))) :
    AWLI none P w0 C0 ops (⟨some t, .call ⟨.value x, xa, tys⟩, ty, pos, aft, none⟩ :: rest) Q S := by
  rintro a w ⟨C, T, hs⟩
  subst hxa
  have hf := hs.evv hx
  have hap : (Tr wo ++ un).Pairwise (fun e e' => e.b ≠ e'.b) := (hp.pairwise_iff (fun h => fun e => h e.symm)).2 hs.apart
  have hobjs : Objs C (Tr wo) w := ⟨fun e he => by have := hs.objs e (hp.mem_iff.1 (List.mem_append.2 (.inl he))); exact ⟨this.1, this.2.1⟩, (List.pairwise_append.1 hap).1⟩
  obtain ⟨fn, tmps, assign, body, hrun, hround⟩ := hy.tr C w (xs.map a.eval).toArray (fun b o v hc => by obtain ⟨h1, h2, h3⟩ := hcs b o v hc; rw [hs.old b o h2 h3]; exact h1) ⟨hs.com, hs.one⟩ (by simpa using hargs.rels hs) hobjs
  have hexec : (execOp a.eval ⟨some t, .call ⟨.value x, xs.toArray, tys⟩, ty, pos, aft, none⟩).run P w = .ok (.round l fn tmps assign body) w := by
    simp [execOp, resolve, invoke, hf, Deferred.ofValue, Sem.run_bind, hrun]
  unfold wpListIn
  rw [if_pos (by simp [Region.wanted])]
  refine ⟨fun _ _ => trivial, ?_⟩
  rw [Oper.semAt_eq _ _ _ (fun c h => by cases h), hexec]
  refine ⟨fun h => by simp [Fr, Fence.wide] at h, RoundIn.mono hround ?_⟩
  rintro e w' ⟨rfl, C', nobjs, hR, hb, hC, hcom, hn, hnb⟩
  have hs' := hs.calledW hp (fun e he => by obtain ⟨e0, _, rfl⟩ := List.mem_map.1 he; rfl) hb (fun h => by rw [hq] at h; cases h) hC hcom hn hnb
  have hperm := hmk nobjs
  have hs2 : SimC w0 C0 C' T ⟨S.nt, S.slots, mk nobjs⟩ a w' := ⟨hs'.below, hs'.com, hs'.one, hs'.old, fun e he => hs'.objs e (hperm.mem_iff.2 he), (hperm.pairwise_iff (fun h => fun e => h e.symm)).1 hs'.apart,
    fun t k hk => ⟨(hs'.toks t k hk).1, fun e he => (hs'.toks t k hk).2 e (hperm.mem_iff.2 he)⟩, hs'.tokne, hs'.size, hs'.slots, hs'.defers, hs'.dr⟩
  exact hr nobjs hR _ _ ⟨C', T, hs2.put ht (srel_v _)⟩
def SV.plain : SV → Bool
  | .a _ => true
  | .own _ _ _ => false
def putsP : List Nat → List AV → AState → AState
  | [], _, S => S
  | _ :: _, [], S => S
  | p :: ps, c :: cs, S => putsP ps cs (S.put p (.a c))
def RoundC (P : Program) (S : AState) (ps : Array Tmp) (assign body : Code) (sl : List (Nat × SV)) (JU : List (List AV) → List OE → Prop) (A : List (List AV) → List AV → Prop) : Prop :=
  ∀ (l : Nat) (pre : List (List AV)) (x : List AV) (wo : List OE) (rec busy : Loop) (w0 : Base) (C0 : CS), w0.q = false → JU pre wo → A pre x →
    AWPI (some l) P w0 C0 assign (fun e S1 => e = .normal ∧ ∃ i, S1.objs[i]? = some ⟨l, true, .loop rec⟩ ∧
      AWPI (some l) P w0 C0 body (fun e S' => e = .normal ∧ ∃ wo' : List OE, JU (pre ++ [x]) wo' ∧ (wo' ++ [(⟨l, true, .loop busy⟩ : OE)]).Sublist S'.objs ∧ ∀ e ∈ wo', e.rw = true) ⟨S1.nt, S1.slots, S1.objs.set i ⟨l, true, .loop busy⟩⟩)
      (putsP ps.toList x ⟨S.nt, sl, Tr wo ++ [⟨l, true, .loop rec⟩]⟩)
theorem SimC.sub (h : SimC w0 C0 C T S a w) {objs : List OE} (hsub : objs.Sublist S.objs) : SimC w0 C0 C T ⟨S.nt, S.slots, objs⟩ a w :=
  ⟨h.below, h.com, h.one, h.old, fun e he => h.objs e (hsub.mem he), h.apart.sublist hsub, fun t k hk => ⟨(h.toks t k hk).1, fun e he => (h.toks t k hk).2 e (hsub.mem he)⟩, h.tokne, h.size, h.slots, h.defers, h.dr⟩
theorem tr_tr (l : List OE) : Tr (Tr l) = Tr l := by simp [Tr]
theorem putsP_sim : ∀ {ps : List Nat} {x : List AV} {vals : List Value} {S : AState} {a : Act}, SimC w0 C0 C T S a w → Rels C x vals → ps.all (fun p => Nat.blt p S.nt) = true → ps.length = x.length →
    SimC w0 C0 C T (putsP ps x S) { a with tmps := (ps.zip vals).foldl (fun t (p, v) => t.setIfInBounds p v) a.tmps } w
  | [], [], vals, S, a, h, hr, _, _ => by rw [hr.nil_inv]; exact h
  | p :: ps, c :: cs, vals, S, a, h, hr, hb, hl => by
    obtain ⟨v, vs, rfl, h1, h2⟩ := hr.cons_inv
    simp only [List.all_cons, Bool.and_eq_true] at hb
    have h' : SimC w0 C0 C T (S.put p (.a c)) (a.put (some p) v) w := h.put hb.1 h1
    have := putsP_sim h' h2 hb.2 (by simpa using hl)
    exact this
  | [], _ :: _, _, _, _, _, _, _, hl => by simp at hl
  | _ :: _, [], _, _, _, _, _, _, hl => by simp at hl
theorem round_yc {ps : Array Tmp} {assign body : Code} {sl : List (Nat × SV)} {JU : List (List AV) → List OE → Prop} {A : List (List AV) → List AV → Prop} (hR : RoundC P S ps assign body sl JU A)
    {l fn : Nat} {tmps : Array Value} {D : Nat} {Cs : CS} {Ts : TS} (hsz : tmps.size = S.nt) (hps : ps.toList.all (fun p => Nat.blt p S.nt) = true) (hA : ∀ pre x, A pre x → x.length = ps.size) (hpl : sl.all (fun p => p.2.plain) = true)
    (hsl : ∀ t x, find t sl = some x → SRel Cs Ts x (tmps.getD t undef)) :
    ∀ pre x wo, JU pre wo → A pre x → ∀ (C : CS) (w : World) (vals : Array Value), Com C w → Rels C x vals.toList → Objs C (⟨l, true, .loop ⟨.ready, none, fn, tmps, ps, assign, body, D⟩⟩ :: wo) w → (∀ b o v, Cs b o = some v → C b o = some v) →
      YieldAt Fence.wide 0 P l vals w (fun e w' => e = .returned (.bool true) ∧ ∃ C' wo', JU (pre ++ [x]) wo' ∧ BelowX w.heap.size (WB (⟨l, true, .loop ⟨.ready, none, fn, tmps, ps, assign, body, D⟩⟩ :: wo)) w w' ∧
        (∀ b o, b < w.heap.size → ¬ WB (⟨l, true, .loop ⟨.ready, none, fn, tmps, ps, assign, body, D⟩⟩ :: wo) b → C' b o = C b o) ∧ Com C' w' ∧ Objs C' (⟨l, true, .loop ⟨.ready, none, fn, tmps, ps, assign, body, D⟩⟩ :: wo') w' ∧
        ∀ e ∈ (⟨l, true, .loop ⟨.ready, none, fn, tmps, ps, assign, body, D⟩⟩ :: wo' : List OE), w.heap.size ≤ e.b ∨ WB (⟨l, true, .loop ⟨.ready, none, fn, tmps, ps, assign, body, D⟩⟩ :: wo) e.b) := by
  intro pre x wo hj hax C w vals hcom hrel hobjs hmono
  have hl : w.heap[l]? = some (.loop ⟨.ready, none, fn, tmps, ps, assign, body, D⟩) := (hobjs.1 ⟨l, true, .loop ⟨.ready, none, fn, tmps, ps, assign, body, D⟩⟩ List.mem_cons_self).1
  have hvs : vals.size = ps.size := by have := hrel.1; have := hA pre x hax; simp at *; omega
  refine ⟨fn, (ps.zip vals).foldl (fun t (p, v) => t.setIfInBounds p v) tmps, assign, body, run_yield (P := P) (args := vals) hl hvs, roundIn_of_wpIn trivial ?_⟩
  obtain ⟨rec, hrec⟩ : ∃ rec : Loop, rec = ⟨.ready, none, fn, tmps, ps, assign, body, D⟩ := ⟨_, rfl⟩
  rw [← hrec] at hl hobjs ⊢
  have hst : rec.state = .ready := by rw [hrec]
  have hpe : rec.pending = none := by rw [hrec]
  -- the state in which the round begins
  have hs0 : SimC ⟨w, WB (⟨l, true, .loop rec⟩ :: wo), false⟩ C C (fun _ => none) ⟨S.nt, sl, Tr wo ++ [⟨l, true, .loop rec⟩]⟩ ⟨tmps, []⟩ w := by
    obtain ⟨ap1, ap2⟩ := List.pairwise_cons.1 hobjs.2
    refine ⟨BelowX.refl _, hcom.1, hcom.2, fun _ _ _ _ => rfl, ?_, ?_, by simp, by simp, hsz, ?_, Defs.nil, fun _ => Nat.le_refl _⟩
    · intro e he
      rcases List.mem_append.1 he with he | he
      · obtain ⟨e0, h0, rfl⟩ := List.mem_map.1 he
        have := hobjs.1 e0 (List.mem_cons_of_mem _ h0)
        exact ⟨this.1, this.2, fun _ => .inr ⟨e0, List.mem_cons_of_mem _ h0, rfl⟩⟩
      · obtain rfl := List.mem_singleton.1 he
        have := hobjs.1 _ (List.mem_cons_self)
        exact ⟨this.1, this.2, fun _ => .inr ⟨_, List.mem_cons_self, rfl⟩⟩
    · refine List.pairwise_append.2 ⟨List.pairwise_map.2 ap2, by simp, fun e he e' he' => ?_⟩
      obtain ⟨e0, h0, rfl⟩ := List.mem_map.1 he
      obtain rfl := List.mem_singleton.1 he'
      exact fun h => ap1 e0 h0 h.symm
    · intro t y hy
      have hpl' := List.all_eq_true.1 hpl _ (find_mem hy)
      have := hsl t y hy
      cases y with
      | a z => exact Rel.mono hmono this
      | own tok sz l => simp [SV.plain] at hpl'
  have hzip : (ps.toList.zip vals.toList).foldl (fun t (p, v) => t.setIfInBounds p v) tmps = (ps.zip vals).foldl (fun t (p, v) => t.setIfInBounds p v) tmps := by
    rw [← Array.foldl_toList, Array.toList_zip]
  have hs1 : SimC ⟨w, WB (⟨l, true, .loop rec⟩ :: wo), false⟩ C C (fun _ => none) (putsP ps.toList x ⟨S.nt, sl, Tr wo ++ [⟨l, true, .loop rec⟩]⟩) ⟨(ps.zip vals).foldl (fun t (p, v) => t.setIfInBounds p v) tmps, []⟩ w := by
    rw [← hzip]; exact putsP_sim (ps := ps.toList) hs0 hrel hps (by simp [hA pre x hax])
  have hround := hR l pre x wo rec { rec with state := .busy } _ C rfl hj hax _ w ⟨_, _, hs1⟩
  refine wpIn_mono hround ?_
  rintro e a1 w1 ⟨S1, ⟨C1, T1, hs1'⟩, rfl, i, hi, hbody⟩
  have hl1 : w1.heap[l]? = some (.loop rec) := (hs1'.objs _ (mem_of_get hi)).1
  have hlt1 : l < w1.heap.size := (Array.getElem?_eq_some_iff.1 hl1).1
  refine ⟨_, run_beginRound hl1 hst, ?_⟩
  have hs2 := hs1'.setObj (ob' := .loop { rec with state := .busy }) hi (w' := w1.putObj l (.loop { rec with state := .busy })) (Nat.le_refl _) rfl rfl rfl (by simp) (fun k hk => World.putObj_heap_other hk) (World.putObj_heap_same hlt1)
  refine wpIn_mono (hbody _ _ ⟨_, _, hs2⟩) ?_
  rintro e a3 w3 ⟨S3, ⟨C3, T3, hs3⟩, rfl, wo', hj', hsub, hrw⟩
  have hm : (⟨l, true, .loop { rec with state := .busy }⟩ : OE) ∈ S3.objs := hsub.mem (by simp)
  obtain ⟨k, hk⟩ := List.getElem?_of_mem hm
  have hl3 : w3.heap[l]? = some (.loop { rec with state := .busy }) := (hs3.objs _ hm).1
  have hlt3 : l < w3.heap.size := (Array.getElem?_eq_some_iff.1 hl3).1
  have hback : ({ { rec with state := LoopState.busy } with state := if (none : Option Code).isNone then LoopState.ready else .done, pending := none } : Loop) = rec := by rw [hrec]; rfl
  refine ⟨_, _, run_endRound none hl3, ?_⟩
  rw [hback]
  have hap3 := hs3.apart.sublist hsub
  obtain ⟨ap1, _, ap2⟩ := List.pairwise_append.1 hap3
  have hC3 : ∀ o, C3 l o = none := (hs3.objs _ hm).2.1
  have hhp : ∀ k, k ≠ l → (w3.putObj l (.loop rec)).heap[k]? = w3.heap[k]? := fun k hk => World.putObj_heap_other hk
  have hwl : WB (⟨l, true, .loop rec⟩ :: wo) l := ⟨_, List.mem_cons_self, rfl⟩
  refine ⟨rfl, C3, wo', hj', ?_, hs3.old, ⟨fun b o v hc => ?_, hs3.one⟩, ⟨fun e he => ?_, ?_⟩, fun e he => ?_⟩
  · exact hs3.below.trans ⟨rfl, rfl, rfl, by simp, fun k _ hn => hhp k (fun e => by subst e; exact hn hwl)⟩
  · have hne : b ≠ l := fun e => by subst e; rw [hC3 o] at hc; cases hc
    exact (hs3.com _ _ _ hc).keep (hhp b hne)
  · rcases List.mem_cons.1 he with rfl | he
    · exact ⟨World.putObj_heap_same hlt3, hC3⟩
    · have := hs3.objs e (hsub.mem (List.mem_append.2 (.inl he)))
      exact ⟨this.1.mono (fun _ _ _ x => x) (hhp _ (ap2 e he _ (List.mem_singleton.2 rfl))), this.2.1⟩
  · exact List.pairwise_cons.2 ⟨fun e he h => ap2 e he _ (List.mem_singleton.2 rfl) h.symm, ap1⟩
  · rcases List.mem_cons.1 he with rfl | he
    · exact .inr hwl
    · have := (hs3.objs e (hsub.mem (List.mem_append.2 (.inl he)))).2.2 (hrw e he)
      exact this
theorem awp_rangeFunc {g : Operand} {ps : Array Tmp} {assign body : Code} {it : Nat} {caps : List AV} {rd wo un : List OE} {A : List (List AV) → List AV → Prop} {G : List (List AV) → Prop} (JU : List (List AV) → List OE → Prop) (sl : List (Nat × SV)) (mask : List Bool)
    (hq : w0.q = false) (hg : S.ev g = some (.a (.fn it caps))) (hit : IterC P it caps rd A G) (hen : entersT P it) (hA : ∀ pre x, A pre x → x.length = ps.size) (hwo : sel mask S.objs = wo) (hrw : wo.all (·.rw) = true) (hun : unsel mask S.objs = un) (hrd : rd.Sublist un)
    (hsl : Slots S sl) (hpl : sl.all (fun p => p.2.plain) = true) (hps : ps.toList.all (fun p => Nat.blt p S.nt) = true) (h0 : JU [] wo) (hround : RoundC P S ps assign body sl JU A)
    (hr : ∀ xs wo', G xs → JU xs wo' → Q .normal ⟨S.nt, S.slots, Tr wo' ++ un⟩) : AWP P w0 C0 (.rangeFunc g ps assign body) Q S := by
  rintro a w ⟨C, T, hs⟩
  refine wpIn_wide.1 (wpIn_rangeFunc (n := 0) ?_)
  intro fn _
  have hp : (wo ++ un).Perm S.objs := by rw [← hwo, ← hun]; exact sel_perm mask S.objs
  have hf := hs.ev hg
  generalize hv : a.eval g = u at hf
  obtain ⟨arr, rfl⟩ : ∃ arr, u = .func (.func it) #[] arr := by cases hf; exact ⟨_, rfl⟩
  have hcaps := rel_fn.1 hf
  obtain ⟨rec, hrec⟩ : ∃ rec : Loop, rec = ⟨.ready, none, fn, a.tmps, ps, assign, body, w.heap.size⟩ := ⟨_, rfl⟩
  have hs1 := hs.mark
  have hs2 := hs1.newObj (.loop rec) (o := .loop rec) (by have := heap_alloc_at (w.alloc (.deferred (some []))) (.loop rec); exact this)
  obtain ⟨W1, hW1⟩ : ∃ W1, (w.alloc (.deferred (some []))).alloc (.loop rec) = W1 := ⟨_, rfl⟩
  have hl1 : (w.alloc (.deferred (some []))).heap.size = w.heap.size + 1 := by simp
  rw [hW1, hl1] at hs2
  refine ⟨w.heap.size + 1, [{ target := .collected w.heap.size, args := #[] }], W1, { target := .fn (.func it) arr, args := #[.func (.yield (w.heap.size + 1)) #[] #[]] }, W1, it,
    #[.func (.yield (w.heap.size + 1)) #[] #[]] ++ arr, W1, ?_, ?_, fun _ _ => trivial, ?_, fun h => by simp [Fence.wide] at h, ?_⟩
  · rw [← hW1, hrec]; exact run_enterLoop_outer _ _ _ _ _
  · simp only [resolve, hv]
    simp [go_sem]
  · have hen' := hen (#[Value.func (.yield (w.heap.size + 1)) #[] #[]] ++ arr) W1
    simp only [invoke, Sem.run] at hen' ⊢
    first | exact hen' | simpa [go_sem] using hen'
  · refine callsIn_wide.2 ?_
    -- the objects that the iterator is handed
    have hrel : Rels C (.v (.func (.yield (w.heap.size + 1)) #[] #[]) :: caps) (#[Value.func (.yield (w.heap.size + 1)) #[] #[]] ++ arr).toList := by simpa using Rels.cons (Rel.v _) hcaps
    have hp2 : ((⟨w.heap.size + 1, true, .loop rec⟩ :: wo) ++ un).Perm ((⟨w.heap.size + 1, true, .loop rec⟩ : OE) :: S.objs) := hp.cons _
    have hap : ((⟨w.heap.size + 1, true, .loop rec⟩ :: wo) ++ un : List OE).Pairwise (fun e e' => e.b ≠ e'.b) := (hp2.pairwise_iff (fun h => fun e => h e.symm)).2 hs2.apart
    have hobjs : Objs C (rd ++ (⟨w.heap.size + 1, true, .loop rec⟩ :: wo)) W1 := by
      refine ⟨fun e he => ?_, ?_⟩
      · have : e ∈ (⟨w.heap.size + 1, true, .loop rec⟩ : OE) :: S.objs := hp2.mem_iff.1 (List.mem_append.2 (by rcases List.mem_append.1 he with h | h; exact .inr (hrd.mem h); exact .inl h))
        exact ⟨(hs2.objs e this).1, (hs2.objs e this).2.1⟩
      · obtain ⟨h1, h2, h3⟩ := List.pairwise_append.1 hap
        exact List.pairwise_append.2 ⟨h2.sublist hrd, h1, fun e he e' he' h => h3 e' he' e (hrd.mem he) h.symm⟩
    have hyc := round_yc hround (l := w.heap.size + 1) (fn := fn) (tmps := a.tmps) (D := w.heap.size) (Cs := C) (Ts := T) hs.size hps hA hpl (fun t x hx => by
      obtain ⟨y, hy, hle⟩ := hsl.mem (find_mem hx)
      exact hle.rel (hs.slots t y hy))
    rw [← hrec] at hyc
    have hpe : rec.pending = none := by rw [hrec]
    have hst : rec.state = .ready := by rw [hrec]
    have hcall := hit (w.heap.size + 1) C (fun pre wo1 => ∃ wo', wo1 = ⟨w.heap.size + 1, true, .loop rec⟩ :: wo' ∧ JU pre wo') (by
      rintro pre x wo1 ⟨wo', rfl, hj⟩ hax C1 w1 vals hm hc hrl hob
      refine YieldAt.mono (hyc pre x wo' hj hax C1 w1 vals hc hrl hob hm) ?_
      rintro e w' ⟨rfl, C', wo2, hj2, g1, g2, g3, g4, g5⟩
      exact ⟨rfl, C', _, ⟨wo2, rfl, hj2⟩, g1, g2, g3, g4, g5⟩) (⟨w.heap.size + 1, true, .loop rec⟩ :: wo) ⟨wo, rfl, h0⟩ C W1 _ (fun _ _ _ h => h) ⟨hs2.com, hs2.one⟩ hrel hobjs
    refine hcall.mono ?_
    rintro e w3 ⟨v, C3, r, nobjs, rfl, ⟨xs, wo1, hG, ⟨wo', rfl, hj⟩, rfl⟩, hb, hC, hcom, _, hn, hnb⟩
    have hs3 := hs2.calledW hp2 (fun e he => by rcases List.mem_cons.1 he with rfl | he; rfl; exact List.all_eq_true.1 hrw e he) hb (fun h => by rw [hq] at h; cases h) hC hcom hn hnb
    rw [tr_tr] at hs3
    have hi0 : (Tr (⟨w.heap.size + 1, true, .loop rec⟩ :: wo') ++ un)[0]? = some ⟨w.heap.size + 1, true, .loop rec⟩ := rfl
    have hl3 : w3.heap[w.heap.size + 1]? = some (.loop rec) := (hs3.objs _ (mem_of_get hi0)).1
    have hend := run_endLoop (P := P) hl3 (by rw [hst]; simp)
    rw [hpe] at hend
    refine ⟨none, _, hend, ?_⟩
    have hs4 := hs3.setObj (ob' := .loop { rec with state := .exhausted }) hi0 (w' := w3.putObj (w.heap.size + 1) (.loop { rec with state := .exhausted })) (Nat.le_refl _) rfl rfl rfl (by simp) (fun k hk => World.putObj_heap_other hk) (World.putObj_heap_same (Array.getElem?_eq_some_iff.1 hl3).1)
    have hs5 := hs4.sub (objs := Tr wo' ++ un) (by simp [Tr])
    rw [hpe] at hs5
    exact ⟨_, ⟨C3, T, hs5⟩, hr xs wo' hG hj⟩
end Go.Proofs.YtcbhhjahjnlfhaaDoor.A
namespace Go.Proofs.YtcbhhjahjnlfhaaDoor.A
open Go Go.RowKit
set_option linter.unusedVariables false
set_option linter.unusedSimpArgs false
set_option linter.unusedSectionVars false
variable {P : Program} {w0 : Base} {C0 C : CS} {T : TS} {S S' : AState} {a : Act} {w : World} {ops : Array Oper} {rest : List Oper} {o : Oper} {Q : Exit → AState → Prop}
variable {t : Nat} {ty ty' : TypeId} {pos : String} {aft : Array Edge}
theorem SimC.perm (h : SimC w0 C0 C T S a w) {objs : List OE} (hp : objs.Perm S.objs) : SimC w0 C0 C T ⟨S.nt, S.slots, objs⟩ a w :=
  ⟨h.below, h.com, h.one, h.old, fun e he => h.objs e (hp.mem_iff.1 he), (hp.pairwise_iff (fun h => fun e => h e.symm)).2 h.apart, fun t k hk => ⟨(h.toks t k hk).1, fun e he => (h.toks t k hk).2 e (hp.mem_iff.1 he)⟩, h.tokne, h.size, h.slots, h.defers, h.dr⟩
theorem imp_perm {objs : List OE} (hp : objs.Perm S.objs) : Imp w0 C0 S ⟨S.nt, S.slots, objs⟩ := fun a w ⟨C, T, hs⟩ => ⟨C, T, hs.perm hp⟩
theorem imp_sub {objs : List OE} (hp : objs.Sublist S.objs) : Imp w0 C0 S ⟨S.nt, S.slots, objs⟩ := fun a w ⟨C, T, hs⟩ => ⟨C, T, hs.sub hp⟩
theorem Imp.trans {S1 S2 S3 : AState} (h : Imp w0 C0 S1 S2) (k : Imp w0 C0 S2 S3) : Imp w0 C0 S1 S3 := fun a w hs => k a w (h a w hs)
def IsVal (x : AV) (v : Value) : Prop := ∀ (C : CS) (u : Value), Rel C x u ↔ u = v
theorem isVal_v (v : Value) : IsVal (.v v) v := fun C u => ⟨fun h => by cases h; rfl, fun h => by subst h; exact .v _⟩
inductive AreVals : List AV → List Value → Prop where
  | nil : AreVals [] []
  | cons {x : AV} {v : Value} {xs : List AV} {vs : List Value} (h : IsVal x v) (r : AreVals xs vs) : AreVals (x :: xs) (v :: vs)
theorem AreVals.rels {xs : List AV} {vs : List Value} (h : AreVals xs vs) : ∀ (C : CS) (us : List Value), Rels C xs us ↔ us = vs := by
  induction h with
  | nil => exact fun C us => ⟨fun h => h.nil_inv, fun h => by subst h; exact Rels.nil⟩
  | cons h1 _ ih =>
    intro C us
    constructor
    · intro h
      obtain ⟨u, us', rfl, h2, h3⟩ := h.cons_inv
      rw [(h1 C u).1 h2, (ih C us').1 h3]
    · rintro rfl
      exact Rels.cons ((h1 C _).2 rfl) ((ih C _).2 rfl)
theorem isVal_agg {xs : List AV} {vs : List Value} (h : AreVals xs vs) : IsVal (.agg xs) (.agg vs.toArray) := fun C u => by
  constructor
  · intro hr
    obtain ⟨arr, rfl⟩ : ∃ arr, u = .agg arr := by cases hr; exact ⟨_, rfl⟩
    have := (h.rels C arr.toList).1 (rel_agg.1 hr)
    rw [← this]
  · rintro rfl
    exact rel_agg.2 (by simpa using (h.rels C vs).2 rfl)
theorem areVals_v : ∀ (vs : List Value), AreVals (vs.map .v) vs
  | [] => .nil
  | v :: vs => .cons (isVal_v v) (areVals_v vs)
def isIntT (P : Program) (t : TypeId) (q : IntKind) : Bool := match P.underlying t with | some (.int q') => decide (q' = q) | _ => false
def notAgg (P : Program) (t : TypeId) : Bool := match aggT P t with | some false => true | _ => false
theorem run_part1 {e : TypeId} (he : aggT P e = some false) {xs : Array Value} {off : Nat} {v : Value} (hx : xs[off]? = some v) (w : World) : (part e xs off).run P w = .ok v w := by
  simp [part, run_isAgg he, hx]
section
variable {K α : Type} [DecidableEq K] {ek : K → Value} {ev : α → AV} {kt et : TypeId}
end
end Go.Proofs.YtcbhhjahjnlfhaaDoor.A
namespace Go.Proofs.YtcbhhjahjnlfhaaDoor.A
open Go Go.RowKit
set_option linter.unusedVariables false
set_option linter.unusedSimpArgs false
set_option linter.unusedSectionVars false
variable {P : Program} {w0 : Base} {C0 C : CS} {T : TS} {S S' : AState} {a : Act} {w : World} {ops : Array Oper} {rest : List Oper} {o : Oper} {Q : Exit → AState → Prop}
variable {t : Nat} {ty ty' : TypeId} {pos : String} {aft : Array Edge}
theorem append_facts {e sz bytes : Nat} (hsz : szT P e = some sz) (hby : bytesT P e = some bytes) (hz : (zeroT P e).map (·.length) = some sz) :
    ∃ i, P.info? e = some i ∧ i.size = sz ∧ i.bytes = bytes ∧ ∃ z, i.zero = some z ∧ z.cells.size = sz := by
  unfold szT at hsz; unfold bytesT at hby; unfold zeroT at hz
  cases hi : P.info? e with
  | none => simp [hi] at hsz
  | some i =>
    cases hiz : i.zero with
    | none => simp [hi, hiz] at hz
    | some z => simp [hi] at hsz hby; simp [hi, hiz] at hz; exact ⟨i, rfl, hsz, hby, z, hiz, hz⟩
theorem take_append_exact {α : Type} (l m : List α) (n : Nat) (h : l.length = n) : (l ++ m).take n = l := by subst h; simp
theorem r_appendBN {x y : Operand} {sy : SV} {st e sz bytes : Nat} {m : List (List AV)} (hx : S.ev x = some (.a (.v (.slice none 0 0)))) (hy : S.ev y = some sy) (hm : Content sz sy m) (hm0 : m ≠ [])
    (hst : sliceT P st = some e) (hsz : szT P e = some sz) (hby : bytesT P e = some bytes) (hz : (zeroT P e).map (·.length) = some sz)
    (hb : m.length * bytes ≤ 140737488355328) (h63 : m.length ≤ 9223372036854775807) (ht : Nat.blt t S.nt = true)
    (hr : ∀ g cap, AWL P w0 C0 ops rest Q (AState.put ⟨S.nt, S.slots, ⟨g, true, .buf sz m cap e⟩ :: S.objs⟩ t (.a (.v (.slice (some ⟨g, 0, none⟩) m.length cap))))) :
    AWL P w0 C0 ops (⟨some t, .call ⟨.builtin .append, #[x, y], #[st, st]⟩, ty, pos, aft, none⟩ :: rest) Q S := by
  rintro a w ⟨C, T, hs⟩
  obtain ⟨A, capy, by_, oy, hvy, hcapy, hA, hRy⟩ := rel_sl_inv (hm.rel (hs.ev hy))
  obtain ⟨ws, w1, w2, w3⟩ := hRy.vals
  have hone : ∀ v ∈ ws, v.oneCell' = true := fun v hv => by obtain ⟨j, hj⟩ := List.getElem?_of_mem hv; exact hs.one _ _ _ (w3 j v hj)
  obtain ⟨i, hi, hi1, hi2, z, hiz, hzl⟩ := append_facts hsz hby hz
  obtain rfl := hA hm0
  have hm1 : 0 < m.length := List.length_pos_iff.2 hm0
  have hws : ∀ (j : Nat) (v : Value), ws[j]? = some v → w.cell? ((⟨by_, oy, none⟩ : Addr).add j) = some v := fun j v hj => by rw [addr_add]; exact (hs.com _ _ _ (w3 j v hj)).cell
  have hrun := run_append_nil (P := P) w st ty e i z (sliceT_un hst) hi hiz ⟨by_, oy, none⟩ m.length capy ws (by rw [w2, hi1]) hws hm1 (by omega) (by rw [hi2]; omega)
  have hge := grownCap_ge w m.length 0 e
  have hexec : ∀ (v : Value) (w' : World), (Builtin.append_ #[st, st] ty #[a.eval x, a.eval y]).run P w = .ok v w' → (execOp a.eval ⟨some t, .call ⟨.builtin .append, #[x, y], #[st, st]⟩, ty, pos, aft, none⟩).run P w = .ok (.value v) w' := by
    intro v w' h
    simp [execOp, resolve, invoke, builtin, h]
  rw [hs.evv hx, hvy] at hexec
  refine wpList_plain rfl (fun K hK => ?_)
  unfold Oper.wp
  rw [hexec _ _ hrun]
  refine hK _ _ (hr w.heap.size (grownCap w m.length 0 e) _ _ ⟨C, T, SimC.put (hs.drew.newObj (o := .buf sz m (grownCap w m.length 0 e) e) _ ⟨_, heap_alloc_at _ _, ?_, hge, hRy.1, ws, w1, hone, ?_⟩) ht (srel_v _)⟩)
  · simp only [Array.size_append, List.size_toArray, size_zeroCells, hzl, w2, ← Nat.add_mul]; congr 1; omega
  · rw [Array.toList_append]; exact take_append_exact _ _ _ w2
theorem set_take {α : Type} {l : List α} {i : Nat} {x y : α} (h : l[i]? = some x) : (y :: l.eraseIdx i).Perm (l.set i y) := by
  induction l generalizing i with
  | nil => simp at h
  | cons z l ih =>
    cases i with
    | zero => simp
    | succ i =>
      simp only [List.eraseIdx_cons_succ, List.set_cons_succ]
      exact (List.Perm.swap _ _ _).trans ((ih (by simpa using h)).cons z)
theorem r_appendBG (i : Nat) {x y : Operand} {sy : SV} {st e sz bytes g cap : Nat} {l m : List (List AV)} {n : Nat} (hx : S.ev x = some (.a (.v (.slice (some ⟨g, 0, none⟩) n cap)))) (hn : n = l.length) (hi : S.objs[i]? = some ⟨g, true, .buf sz l cap e⟩) (hy : S.ev y = some sy) (hm : Content sz sy m) (hm0 : m ≠ [])
    (hst : sliceT P st = some e) (hsz : szT P e = some sz) (hby : bytesT P e = some bytes) (hz : (zeroT P e).map (·.length) = some sz)
    (hb : (l.length + m.length) * bytes ≤ 140737488355328) (h63 : l.length + m.length ≤ 9223372036854775807) (ht : Nat.blt t S.nt = true)
    (hr : ∀ g' cap', AWL P w0 C0 ops rest Q (AState.put ⟨S.nt, S.slots, ⟨g', true, .buf sz (l ++ m) cap' e⟩ :: S.objs.eraseIdx i⟩ t (.a (.v (.slice (some ⟨g', 0, none⟩) (l ++ m).length cap'))))) :
    AWL P w0 C0 ops (⟨some t, .call ⟨.builtin .append, #[x, y], #[st, st]⟩, ty, pos, aft, none⟩ :: rest) Q S := by
  rintro a w ⟨C, T, hs⟩
  subst hn
  obtain ⟨A, capy, by_, oy, hvy, hcapy, hA, hRy⟩ := rel_sl_inv (hm.rel (hs.ev hy))
  obtain ⟨ws, w1, w2, w3⟩ := hRy.vals
  have hone : ∀ v ∈ ws, v.oneCell' = true := fun v hv => by obtain ⟨j, hj⟩ := List.getElem?_of_mem hv; exact hs.one _ _ _ (w3 j v hj)
  obtain ⟨i0, hi0, hi1, hi2, z, hiz, hzl⟩ := append_facts hsz hby hz
  obtain rfl := hA hm0
  have hm1 : 0 < m.length := List.length_pos_iff.2 hm0
  have hws : ∀ (j : Nat) (v : Value), ws[j]? = some v → w.cell? ((⟨by_, oy, none⟩ : Addr).add j) = some v := fun j v hj => by rw [addr_add]; exact (hs.com _ _ _ (w3 j v hj)).cell
  obtain ⟨hob, hnone, hrw⟩ := hs.objs _ (mem_of_get hi)
  obtain ⟨arr, a1, a2, a3, a4, vs, a5, a6, a7⟩ := hob
  have hvl : vs.length = l.length * sz := by rw [a5.1, flat_len a4]
  have hvs : ∀ (j : Nat) (v : Value), vs[j]? = some v → w.cell? ((⟨g, 0, none⟩ : Addr).add j) = some v := fun j v hj => by
    rw [addr_add, Nat.zero_add, cell_of_row w g j arr e (0, 0) a1]
    have hlt := (List.getElem?_eq_some_iff.1 hj).1
    rw [← a7, List.getElem?_take, if_pos (by omega)] at hj
    simpa using hj
  have hexec : ∀ (v : Value) (w' : World), (Builtin.append_ #[st, st] ty #[a.eval x, a.eval y]).run P w = .ok v w' → (execOp a.eval ⟨some t, .call ⟨.builtin .append, #[x, y], #[st, st]⟩, ty, pos, aft, none⟩).run P w = .ok (.value v) w' := by
    intro v w' h
    simp [execOp, resolve, invoke, builtin, h]
  rw [hs.evv hx, hvy] at hexec
  have hz4 : ∀ cs, cs ∈ l ++ m → cs.length = sz := fun cs h => by rcases List.mem_append.1 h with h | h; exact a4 cs h; exact hRy.1 cs h
  have hfl : Rels C (l ++ m).flatten (vs ++ ws) := by rw [List.flatten_append]; exact a5.append w1
  have hone2 : ∀ v ∈ vs ++ ws, v.oneCell' = true := fun v hv => by
    rcases List.mem_append.1 hv with hv | hv
    · exact a6 v hv
    · exact hone v hv
  have hlen : (vs ++ ws).length = (l ++ m).length * sz := by rw [List.length_append, hvl, w2, List.length_append, Nat.add_mul]
  refine wpList_plain rfl (fun K hK => ?_)
  unfold Oper.wp
  by_cases hroom : l.length + m.length ≤ cap
  · have hfit : (l.length + m.length) * sz ≤ cap * sz := Nat.mul_le_mul_right _ hroom
    rw [Nat.add_mul] at hfit
    have hrun := run_append_room' (P := P) (w := w) (ty := ty) hst hsz e g l.length cap arr a1 ⟨by_, oy, none⟩ m.length capy ws w2 hws hone hroom (by rw [a2, w2]; exact hfit)
    rw [hexec _ _ hrun]
    have hnew := setRow_heap w g arr (arr.toList.take (l.length * sz) ++ ws ++ arr.toList.drop (l.length * sz + ws.length)).toArray e _ a1
    have hs1 := hs.setObj (ob' := .buf sz (l ++ m) cap e) hi (w' := w.setRow g (arr.toList.take (l.length * sz) ++ ws ++ arr.toList.drop (l.length * sz + ws.length)).toArray) (Nat.le_refl _) rfl rfl rfl (by simp) (fun k hk => setRow_other w g k _ hk)
      ⟨_, hnew, by simp only [List.size_toArray, List.length_append, List.length_drop, Array.length_toList, a7, hvl]; omega, by simpa using hroom, hz4, vs ++ ws, hfl, hone2, by
        rw [a7]
        simp only
        rw [take_append_exact _ _ _ hlen]⟩
    have hs2 := hs1.perm (set_take hi)
    rw [show l.length + m.length = (l ++ m).length from by simp]
    exact hK _ _ (hr g cap _ _ ⟨C, T, hs2.put ht (srel_v _)⟩)
  · have hrun := run_append_grow (P := P) w st ty e i0 z (sliceT_un hst) hi0 hiz ⟨g, 0, none⟩ l.length cap vs (by rw [hvl, hi1]) hvs ⟨by_, oy, none⟩ m.length capy ws (by rw [w2, hi1]) hws (by omega) (by omega) (by rw [hi2]; exact growslice_fits (by omega) hb)
    have hge := grownCap_ge w (l.length + m.length) cap e
    rw [hexec _ _ hrun]
    have hs1 := (hs.drew.newObj (o := .buf sz (l ++ m) (grownCap w (l.length + m.length) cap e) e) (.cells (vs.toArray ++ ws.toArray ++ Builtin.zeroCells z.cells (grownCap w (l.length + m.length) cap e - (l.length + m.length))) e)
      ⟨_, heap_alloc_at _ _, by simp only [Array.size_append, List.size_toArray, size_zeroCells, hzl, hvl, w2, ← Nat.add_mul]; congr 1; omega, by simpa using hge, hz4, vs ++ ws, hfl, hone2, by
        have e1 : (vs.toArray ++ ws.toArray ++ Builtin.zeroCells z.cells (grownCap w (l.length + m.length) cap e - (l.length + m.length))).toList = (vs ++ ws) ++ (Builtin.zeroCells z.cells (grownCap w (l.length + m.length) cap e - (l.length + m.length))).toList := by simp
        rw [e1]
        exact take_append_exact _ _ _ hlen⟩).sub (objs := ⟨w.heap.size, true, .buf sz (l ++ m) (grownCap w (l.length + m.length) cap e) e⟩ :: S.objs.eraseIdx i) ((List.eraseIdx_sublist _ _).cons_cons _)
    rw [show l.length + m.length = (l ++ m).length from by simp] at hs1 ⊢
    exact hK _ _ (hr w.heap.size _ _ _ ⟨C, T, hs1.put ht (srel_v _)⟩)
theorem imp_commitB (i t : Nat) {g n cap sz e : Nat} {l : List (List AV)} (ht : S.get t = some (.a (.v (.slice (some ⟨g, 0, none⟩) n cap)))) (hn : n = l.length) (hi : S.objs[i]? = some ⟨g, true, .buf sz l cap e⟩) :
    Imp w0 C0 S (AState.put ⟨S.nt, S.slots, S.objs.eraseIdx i⟩ t (.a (.sl sz l))) := by
  rintro a w ⟨C, T, hs⟩
  subst hn
  have hm := mem_of_get hi
  obtain ⟨hob, hnone', hbase⟩ := hs.objs _ hm
  obtain ⟨arr, a1, a2, a3, a4, vs, a5, a6, a7⟩ := hob
  have hnone : ∀ o, C g o = none := hnone'
  have hbase' : w0.ok g := hbase rfl
  have hvl : vs.length = l.length * sz := by rw [a5.1, flat_len a4]
  have hmono := CS.add_mono (C := C) (b := g) (o := 0) (vs := vs) (fun j _ => hnone _)
  have hsub := List.eraseIdx_sublist (l := S.objs) (k := i)
  have hp := set_take (y := (⟨g, true, .buf sz l cap e⟩ : OE)) hi
  have hp' : ((⟨g, true, .buf sz l cap e⟩ : OE) :: S.objs.eraseIdx i).Perm S.objs := by
    have : S.objs.set i ⟨g, true, .buf sz l cap e⟩ = S.objs := by
      apply List.ext_getElem?
      intro j
      rw [List.getElem?_set]
      by_cases hij : i = j
      · subst hij; rw [if_pos rfl]; split
        · exact hi.symm
        · rename_i h; rw [List.getElem?_eq_none (by omega)]
      · simp [hij]
    rw [this] at hp; exact hp
  have hne : ∀ e', e' ∈ S.objs.eraseIdx i → e'.b ≠ g := fun e' he h => by
    have := (hp'.pairwise_iff (R := fun e e' : OE => e.b ≠ e'.b) (fun h => fun e => h e.symm)).2 hs.apart
    exact (List.pairwise_cons.1 this).1 e' he h.symm
  have hstep : SimC w0 C0 (C.add g 0 vs) T ⟨S.nt, S.slots, S.objs.eraseIdx i⟩ a w := by
    refine hs.step (BelowX.refl _) (fun _ => Nat.le_refl _) (fun _ _ h => h) ?_ ?_ (fun b' o' hb' hn => CS.add_other (fun e => by subst e; rcases hbase' with h | h; omega; exact hn h)) ?_ (hs.apart.sublist hsub) ?_ hs.tokne (fun t x hx => ⟨x, hx, fun u r => SRel.mono hmono r⟩)
    · intro b' o' v hc
      rcases CS.add_cases hc with ⟨rfl, j, rfl, hj⟩ | hc'
      · refine ⟨?_, fun _ _ => ⟨arr, e, a1⟩⟩
        rw [cell_of_row w b' _ arr e (0, 0) a1, Nat.zero_add]
        have hlt := (List.getElem?_eq_some_iff.1 hj).1
        rw [← a7, List.getElem?_take, if_pos (by omega)] at hj
        simpa using hj
      · exact hs.com _ _ _ hc'
    · intro b' o' v hc
      rcases CS.add_cases hc with ⟨rfl, j, rfl, hj⟩ | hc'
      · exact a6 v (List.mem_of_getElem? hj)
      · exact hs.one _ _ _ hc'
    · intro e' he
      obtain ⟨k1, k2, k3⟩ := hs.objs e' (hsub.mem he)
      exact ⟨k1.mono hmono rfl, fun o => by rw [CS.add_other (hne e' he)]; exact k2 o, k3⟩
    · intro k j hk
      obtain ⟨k1, k2⟩ := hs.toks k j hk
      have hkb : j.b ≠ g := fun e => k2 _ hm e.symm
      exact ⟨k1.keep rfl (fun o => CS.add_other hkb), fun e he => k2 e (hsub.mem he)⟩
  have hv := hs.slots _ _ ht
  have hv' : a.tmps.getD t undef = .slice (some ⟨g, 0, none⟩) l.length cap := by generalize a.tmps.getD t undef = u at hv; cases hv; rfl
  have hx : SRel (C.add g 0 vs) T (.a (.sl sz l)) (.slice (some ⟨g, 0, none⟩) l.length cap) :=
    rel_sl_mk g 0 rfl a3 (fun _ => rfl) (row_mk a4 (a5.mono hmono) (fun j v hj => CS.add_at hj))
  refine ⟨_, T, hstep.below, hstep.com, hstep.one, hstep.old, hstep.objs, hstep.apart, hstep.toks, hstep.tokne, hstep.size, fun t' y hy => ?_, hstep.defers, hstep.dr⟩
  simp only [AState.get, AState.put, find_cons] at hy
  split at hy
  · rename_i e'; subst e'; cases hy; rw [hv']; exact hx
  · exact hstep.slots _ _ hy
end Go.Proofs.YtcbhhjahjnlfhaaDoor.A
namespace Go.Proofs.YtcbhhjahjnlfhaaDoor.A
open Go Go.RowKit
set_option linter.unusedVariables false
set_option linter.unusedSimpArgs false
set_option linter.unusedSectionVars false
variable {P : Program} {w0 : Base} {C0 C : CS} {T : TS} {S S' : AState} {a : Act} {w : World} {ops : Array Oper} {rest : List Oper} {o : Oper} {Q : Exit → AState → Prop}
variable {t : Nat} {ty ty' : TypeId} {pos : String} {aft : Array Edge}
def mixFields (P : Program) : Nat → List Field → List IntKind → Bool
  | _, [], [] => true
  | i, f :: fs, q :: qs => decide (f.name ≠ "_") && Nat.beq f.offset i && notAgg P f.type && isIntT P f.type q && mixFields P (i + 1) fs qs
  | _, _, _ => false
structure MixT (P : Program) (xt : TypeId) (qs : List IntKind) : Prop where
  str : P.underlying xt = some (.struct (P.fieldsOf xt))
  held : P.stoodInHeld xt = false
  flds : mixFields P 0 (P.fieldsOf xt).toList qs = true
  guard : P.eqGuardType P.depth xt = false
inductive Told (P : Program) : AV → (Int → Int → Bool) → Prop where
  | nil : Told P (.v .nilFunc) (fun _ _ => false)
  | fn {f : FuncId} {caps : List AV} {told : Int → Int → Bool} (hen : entersT P f) (h : ∀ a b, 0 ≤ a → 0 ≤ b → AC P f ([.v (.int .u64 a), .v (.int .u64 b)] ++ caps) [] (fun r n => n = [] ∧ r = .v (.bool (told a b)))) : Told P (.fn f caps) told
theorem SV.le.ownEq {tok sz : Nat} {l l' : List (List AV)} (h : l = l') : SV.le (.own tok sz l) (.a (.sl sz l')) := h ▸ .ownSl tok sz l
theorem wrapU_id {n : Int} (h : 0 ≤ n ∧ n < 18446744073709551616) : IntKind.u64.wrap n = n := by
  simp [IntKind.wrap, IntKind.signed, IntKind.bits]; omega
theorem rem_some {k : IntKind} {i j : Int} (h : j ≠ 0) : divI .rem k i j = some (i.tmod j) := if_neg h
theorem quo_some {k : IntKind} {i j : Int} (h : j ≠ 0) : divI .quo k i j = some (k.wrap (i.tdiv j)) := if_neg h
theorem shr_some {k : IntKind} {i j : Int} (h : ¬ j < 0) : shI .shr k i j = some (i.fdiv (2 ^ (min j.toNat k.bits))) := if_neg h
theorem shl_some {k : IntKind} {i j : Int} (h : ¬ j < 0) : shI .shl k i j = some (k.wrap (i * 2 ^ (min j.toNat k.bits))) := if_neg h
end Go.Proofs.YtcbhhjahjnlfhaaDoor.A
namespace Go.Proofs.YtcbhhjahjnlfhaaDoor.A
open Go Go.RowKit
set_option linter.unusedVariables false
set_option linter.unusedSimpArgs false
set_option linter.unusedSectionVars false
variable {P : Program} {w0 : Base} {C0 C : CS} {T : TS} {S S' : AState} {a : Act} {w : World} {ops : Array Oper} {rest : List Oper} {o : Oper} {Q : Exit → AState → Prop}
variable {t : Nat} {ty ty' : TypeId} {pos : String} {aft : Array Edge}
theorem arrT_un {t e : TypeId} {n : Nat} (h : P.underlying t = some (.array n e)) : P.underlying t = some (.array (P.arrayLen t) (P.elem t)) ∧ P.elem t = e ∧ P.arrayLen t = n := by
  have h1 : P.elem t = e := by simp [Program.elem, h]
  have h2 : P.arrayLen t = n := by simp [Program.arrayLen, h]
  rw [h1, h2]; exact ⟨h, rfl, rfl⟩
theorem r_indexArrB {st e n sz b off : Nat} {x y : Operand} {k : IntKind} {i : Int} (hx : S.ev x = some (.a (.v (.pointer (some ⟨b, off, none⟩))))) (hy : S.ev y = some (.a (.v (.int k i)))) (hu : P.underlying st = some (.array n e)) (hsz : szT P e = some sz) (h0 : 0 ≤ i) (h1 : i < n) (ht : Nat.blt t S.nt = true)
    (hr : AWL P w0 C0 ops rest Q (S.put t (.a (.v (.pointer (some ⟨b, off + i.toNat * sz, none⟩)))))) : AWL P w0 C0 ops (⟨some t, .indexAddr st x y, ty, pos, aft, none⟩ :: rest) Q S :=
  awl_pure ht (fun C T a w hs => ⟨_, by simp [execOp, hs.evv hx, hs.evv hy, Instr.indexAt, asIntOf, Sem.run_bind, run_underlying hu, Instr.sureAddr, h0, h1, run_sz hsz, addr_add], srel_v _⟩) hr
end Go.Proofs.YtcbhhjahjnlfhaaDoor.A
namespace Go.Proofs.YtcbhhjahjnlfhaaDoor.A
open Go Go.RowKit
set_option linter.unusedVariables false
set_option linter.unusedSimpArgs false
set_option linter.unusedSectionVars false
variable {P : Program} {w0 : Base} {C0 C : CS} {T : TS} {S S' : AState} {a : Act} {w : World} {ops : Array Oper} {rest : List Oper} {o : Oper} {Q : Exit → AState → Prop}
variable {t : Nat} {ty ty' : TypeId} {pos : String} {aft : Array Edge}
theorem awl_ownbuf (t : Nat) {tok sz : Nat} {l : List (List AV)} {lst : List Oper} (hg : S.get t = some (.own tok sz l)) (hflat : ∀ cs ∈ l, ∀ c ∈ cs, ∃ v, c = AV.v v) (htn : Nat.blt t S.nt = true)
    (h0 : l = [] → AWL P w0 C0 ops lst Q ⟨S.nt, [(t, .a (.v (.slice none 0 0)))], []⟩)
    (h1 : ∀ g cap e, AWL P w0 C0 ops lst Q ⟨S.nt, [(t, .a (.v (.slice (some ⟨g, 0, none⟩) l.length cap)))], [⟨g, true, .buf sz l cap e⟩]⟩) : AWL P w0 C0 ops lst Q S := by
  rintro a w ⟨C, T, hs⟩
  have hone : ∀ (x : Nat) (u : Value) (S1 : List (Nat × SV)), S1 = [(t, .a (.v u))] → a.tmps.getD t undef = u → ∀ C T, ∀ t' x', find t' S1 = some x' → SRel C T x' (a.tmps.getD t' undef) := by
    intro _ u S1 e1 e2 C T t' x' hx'
    subst e1
    rw [find_cons] at hx'
    split at hx'
    · rename_i e; subst e; cases hx'; rw [e2]; exact srel_v _
    · cases hx'
  rcases hs.slots t _ hg with ⟨hl, hu⟩ | ⟨b, cap, e, hT, hcap, hu, hrow⟩
  · refine h0 hl a w ⟨C, fun _ => none, ?_⟩
    exact ⟨hs.below, hs.com, hs.one, hs.old, by simp, by simp, by simp, by simp, hs.size, hone 0 _ _ rfl hu _ _, hs.defers, hs.dr⟩
  · refine h1 b cap e a w ⟨fun b' o => if b' = b then none else C b' o, fun _ => none, ?_⟩
    obtain ⟨⟨k1, k2, ⟨arr, k3, k4⟩, k5⟩, _⟩ := hs.toks _ _ hT
    simp only at k1 k2 k3 k4 k5
    have hfit : l.length * sz ≤ cap * sz := Nat.mul_le_mul_right _ hcap
    refine ⟨hs.below, fun b' o v h => ?_, fun b' o v h => ?_, fun b' o hb hn => ?_, fun e' he => ?_, by simp, by simp, by simp, hs.size, hone 0 _ _ rfl hu _ _, hs.defers, hs.dr⟩
    · split at h
      · cases h
      · exact hs.com _ _ _ h
    · split at h
      · cases h
      · exact hs.one _ _ _ h
    · have : ¬ b' = b := by omega
      simp only [this, if_false]; exact hs.old _ _ hb hn
    · obtain rfl := List.mem_singleton.1 he
      refine ⟨⟨arr, k3, k4, hcap, hrow.1, arr.toList.take (l.length * sz), ⟨?_, ?_⟩, ?_, rfl⟩, fun o => by simp, fun _ => .inl k1⟩
      · have k4' : arr.toList.length = cap * sz := by simpa using k4
        rw [List.length_take, flat_len hrow.1, k4']; omega
      · intro j c u hc hu'
        obtain ⟨cs, hcs, hcm⟩ := List.mem_flatten.1 (List.mem_of_getElem? hc)
        obtain ⟨v, rfl⟩ := hflat cs hcs c hcm
        have hjl := (List.getElem?_eq_some_iff.1 hc).1
        obtain ⟨ws, w1, w2, w3⟩ := hrow.vals
        have hws := w1.2 j (.v v)
        have hjw : j < ws.length := by rw [w1.1]; exact hjl
        have h3 := w3 j _ (List.getElem?_eq_getElem hjw)
        have h4 := (hs.com _ _ _ h3).cell
        rw [cell_of_row w b (0 + j) arr e (0, 0) k3] at h4
        rw [flat_len hrow.1] at hjl
        rw [List.getElem?_take, if_pos hjl] at hu'
        have h5 := hws ws[j] hc (List.getElem?_eq_getElem hjw)
        cases h5
        rw [Nat.zero_add] at h4
        have : some u = some (ws[j]) := by rw [← hu', ← h4]; simp
        cases this
        exact .v _
      · intro v hv
        obtain ⟨j, hj⟩ := List.getElem?_of_mem hv
        obtain ⟨ws, w1, w2, w3⟩ := hrow.vals
        have hjl := (List.getElem?_eq_some_iff.1 hj).1
        rw [List.length_take] at hjl
        have hjw : j < ws.length := by rw [w2]; omega
        have h3 := w3 j _ (List.getElem?_eq_getElem hjw)
        have h4 := (hs.com _ _ _ h3).cell
        rw [cell_of_row w b (0 + j) arr e (0, 0) k3, Nat.zero_add] at h4
        rw [List.getElem?_take, if_pos (by omega)] at hj
        have : some v = some (ws[j]) := by rw [← hj, ← h4]; simp
        cases this
        exact hs.one _ _ _ h3
end Go.Proofs.YtcbhhjahjnlfhaaDoor.A
namespace Go.Proofs.YtcbhhjahjnlfhaaDoor.A
open Go Go.RowKit
set_option linter.unusedVariables false
set_option linter.unusedSimpArgs false
set_option linter.unusedSectionVars false
variable {P : Program} {w0 : Base} {C0 C : CS} {T : TS} {S S' : AState} {a : Act} {w : World} {ops : Array Oper} {rest : List Oper} {o : Oper} {Q : Exit → AState → Prop}
variable {t : Nat} {ty ty' : TypeId} {pos : String} {aft : Array Edge}
theorem r_lenV {x : Operand} {A : Option Addr} {n cap : Nat} {st e : TypeId} (hx : S.ev x = some (.a (.v (.slice A n cap)))) (hst : sliceT P st = some e) (ht : Nat.blt t S.nt = true)
    (hr : AWL P w0 C0 ops rest Q (S.put t (.a (.v (.int .i64 n))))) : AWL P w0 C0 ops (⟨some t, .call ⟨.builtin .len, #[x], #[st]⟩, ty, pos, aft, none⟩ :: rest) Q S :=
  awl_pure ht (fun C T a w hs => ⟨.int .i64 n, by simp [execOp, resolve, invoke, builtin, Builtin.len_, Builtin.lenOf, hs.evv hx, run_underlying (sliceT_un hst), Sem.run_bind, Result.andThen, goInt], srel_v _⟩) hr
theorem r_indexV {st e : TypeId} {sz g off n cap : Nat} {x y : Operand} {k : IntKind} {i : Int} (hx : S.ev x = some (.a (.v (.slice (some ⟨g, off, none⟩) n cap)))) (hy : S.ev y = some (.a (.v (.int k i)))) (hst : sliceT P st = some e) (hsz : szT P e = some sz) (h0 : 0 ≤ i) (h1 : i < n) (ht : Nat.blt t S.nt = true)
    (hr : AWL P w0 C0 ops rest Q (S.put t (.a (.v (.pointer (some ⟨g, off + i.toNat * sz, none⟩)))))) : AWL P w0 C0 ops (⟨some t, .indexAddr st x y, ty, pos, aft, none⟩ :: rest) Q S :=
  awl_pure ht (fun C T a w hs => ⟨_, by simp [execOp, hs.evv hx, hs.evv hy, run_indexAt_slice hst hsz h0 h1], srel_v _⟩) hr
theorem sliceT_el {st e : TypeId} (hst : sliceT P st = some e) : P.underlying st = some (.slice (P.elem st)) ∧ P.elem st = e := by
  have h := sliceT_un hst
  have : P.elem st = e := by simp [Program.elem, h]
  exact ⟨by rw [this]; exact h, this⟩
theorem r_sliceVL {st e : TypeId} {sz g off n cap : Nat} {x y : Operand} {k : IntKind} {lo : Int} (hx : S.ev x = some (.a (.v (.slice (some ⟨g, off, none⟩) n cap)))) (hy : S.ev y = some (.a (.v (.int k lo)))) (hst : sliceT P st = some e) (hsz : szT P e = some sz) (h0 : 0 ≤ lo) (h1 : lo ≤ n) (hc : n ≤ cap) (ht : Nat.blt t S.nt = true)
    (hr : ∀ A : Addr, (lo.toNat < n → A = ⟨g, off + lo.toNat * sz, none⟩) → AWL P w0 C0 ops rest Q (S.put t (.a (.v (.slice (some A) (n - lo.toNat) (cap - lo.toNat)))))) : AWL P w0 C0 ops (⟨some t, .slice st x (some y) none none, ty, pos, aft, none⟩ :: rest) Q S :=
  have hr' := hr (if cap = lo.toNat then ⟨g, off, none⟩ else ⟨g, off + lo.toNat * sz, none⟩) (fun h => if_neg (by omega))
  awl_pure ht (fun C T a w hs => by
    obtain ⟨hu', he⟩ := sliceT_el hst
    have hrun := (run_sliceAt_slice w st (.slice (some ⟨g, off, none⟩) n cap) _ _ _ hu').trans (run_slice_l w st (some ⟨g, off, none⟩) n cap hu' k lo h0 h1)
    rw [he, run_sz hsz] at hrun
    simp only [Result.andThen] at hrun
    refine ⟨sliced (some ⟨g, off, none⟩) lo.toNat n cap sz, by simp [execOp, hs.evv hx, hs.evv hy, hrun], ?_⟩
    have hv : sliced (some ⟨g, off, none⟩) lo.toNat n cap sz = .slice (some (if cap = lo.toNat then ⟨g, off, none⟩ else ⟨g, off + lo.toNat * sz, none⟩)) (n - lo.toNat) (cap - lo.toNat) := by
      unfold sliced
      split <;> simp [*, addr_add]
    rw [hv]; exact srel_v _) hr'
theorem r_sliceVH {st e : TypeId} {sz g off n cap : Nat} {x y : Operand} {k : IntKind} {hi : Int} (hx : S.ev x = some (.a (.v (.slice (some ⟨g, off, none⟩) n cap)))) (hy : S.ev y = some (.a (.v (.int k hi)))) (hst : sliceT P st = some e) (hsz : szT P e = some sz) (h0 : 0 ≤ hi) (h1 : hi ≤ cap) (ht : Nat.blt t S.nt = true)
    (hr : AWL P w0 C0 ops rest Q (S.put t (.a (.v (.slice (some ⟨g, off, none⟩) hi.toNat cap))))) : AWL P w0 C0 ops (⟨some t, .slice st x none (some y) none, ty, pos, aft, none⟩ :: rest) Q S :=
  awl_pure ht (fun C T a w hs => by
    obtain ⟨hu', he⟩ := sliceT_el hst
    have hrun := (run_sliceAt_slice w st (.slice (some ⟨g, off, none⟩) n cap) _ _ _ hu').trans (run_slice_h w st (some ⟨g, off, none⟩) n cap hu' k hi h0 h1)
    rw [he, run_sz hsz] at hrun
    simp only [Result.andThen] at hrun
    refine ⟨sliced (some ⟨g, off, none⟩) 0 hi.toNat cap sz, by simp [execOp, hs.evv hx, hs.evv hy, hrun], ?_⟩
    have hv : sliced (some ⟨g, off, none⟩) 0 hi.toNat cap sz = .slice (some ⟨g, off, none⟩) hi.toNat cap := by
      unfold sliced
      split <;> simp [*, addr_add]
    rw [hv]; exact srel_v _) hr
theorem r_sliceVLH {st e : TypeId} {sz g off n cap : Nat} {x y z : Operand} {k k' : IntKind} {lo hi : Int} (hx : S.ev x = some (.a (.v (.slice (some ⟨g, off, none⟩) n cap)))) (hy : S.ev y = some (.a (.v (.int k lo)))) (hz : S.ev z = some (.a (.v (.int k' hi)))) (hst : sliceT P st = some e) (hsz : szT P e = some sz) (h0 : 0 ≤ lo) (h01 : lo ≤ hi) (h1 : hi ≤ cap) (ht : Nat.blt t S.nt = true)
    (hr : ∀ A : Addr, (lo.toNat < hi.toNat → A = ⟨g, off + lo.toNat * sz, none⟩) → AWL P w0 C0 ops rest Q (S.put t (.a (.v (.slice (some A) (hi.toNat - lo.toNat) (cap - lo.toNat)))))) : AWL P w0 C0 ops (⟨some t, .slice st x (some y) (some z) none, ty, pos, aft, none⟩ :: rest) Q S :=
  have hr' := hr (if cap = lo.toNat then ⟨g, off, none⟩ else ⟨g, off + lo.toNat * sz, none⟩) (fun h => if_neg (by omega))
  awl_pure ht (fun C T a w hs => by
    obtain ⟨hu', he⟩ := sliceT_el hst
    have hrun := (run_sliceAt_slice w st (.slice (some ⟨g, off, none⟩) n cap) _ _ _ hu').trans (run_slice_lh w st (some ⟨g, off, none⟩) n cap hu' k k' lo hi h0 h01 h1)
    rw [he, run_sz hsz] at hrun
    simp only [Result.andThen] at hrun
    refine ⟨sliced (some ⟨g, off, none⟩) lo.toNat hi.toNat cap sz, by simp [execOp, hs.evv hx, hs.evv hy, hs.evv hz, hrun], ?_⟩
    have hv : sliced (some ⟨g, off, none⟩) lo.toNat hi.toNat cap sz = .slice (some (if cap = lo.toNat then ⟨g, off, none⟩ else ⟨g, off + lo.toNat * sz, none⟩)) (hi.toNat - lo.toNat) (cap - lo.toNat) := by
      unfold sliced
      split <;> simp [*, addr_add]
    rw [hv]; exact srel_v _) hr'
theorem r_sliceV3 {st e : TypeId} {sz g off n cap : Nat} {x y z u : Operand} {k k' k2 : IntKind} {lo hi mx : Int} (hx : S.ev x = some (.a (.v (.slice (some ⟨g, off, none⟩) n cap)))) (hy : S.ev y = some (.a (.v (.int k lo)))) (hz : S.ev z = some (.a (.v (.int k' hi)))) (hu : S.ev u = some (.a (.v (.int k2 mx)))) (hst : sliceT P st = some e) (hsz : szT P e = some sz) (h0 : 0 ≤ lo) (h01 : lo ≤ hi) (h1 : hi ≤ mx) (h2 : mx ≤ cap) (ht : Nat.blt t S.nt = true)
    (hr : ∀ v : Value, AWL P w0 C0 ops rest Q (S.put t (.a (.v v)))) : AWL P w0 C0 ops (⟨some t, .slice st x (some y) (some z) (some u), ty, pos, aft, none⟩ :: rest) Q S :=
  have hr' := hr (sliced (some ⟨g, off, none⟩) lo.toNat hi.toNat mx.toNat sz)
  awl_pure ht (fun C T a w hs => by
    obtain ⟨hu', he⟩ := sliceT_el hst
    have hrun := (run_sliceAt_slice w st (.slice (some ⟨g, off, none⟩) n cap) _ _ _ hu').trans (run_slice_lhm w st (some ⟨g, off, none⟩) n cap hu' k k' k2 lo hi mx h0 h01 h1 h2)
    rw [he, run_sz hsz] at hrun
    simp only [Result.andThen] at hrun
    refine ⟨sliced (some ⟨g, off, none⟩) lo.toNat hi.toNat mx.toNat sz, by simp [execOp, hs.evv hx, hs.evv hy, hs.evv hz, hs.evv hu, hrun], ?_⟩
    exact srel_v _) hr'
theorem box_get {C : CS} {cs : List AV} {arr : Array Value} (h : Rels C cs arr.toList) : arr.size = cs.length := by have := h.1; simpa using this
theorem rels_vals {C : CS} (vs : List Value) : Rels C (vs.map AV.v) vs := ⟨by simp, fun j c u h1 h2 => by rw [List.getElem?_map, h2] at h1; simp at h1; subst h1; exact .v _⟩
theorem r_clear (i : Nat) {x : Operand} {A : Addr} {m c g off : Nat} {cs : List AV} {st e : TypeId} {zs : List Value} (hx : S.ev x = some (.a (.v (.slice (some A) m c)))) (hA : 0 < m → A = ⟨g, off, none⟩) (hi : S.objs[i]? = some ⟨g, true, .box cs⟩)
    (hst : sliceT P st = some e) (hz : zeroT P e = some zs) (hz1 : zs.length = 1) (hz2 : ∀ z ∈ zs, z.oneCell' = true) (hl : off + m ≤ cs.length)
    (hr : ∀ ext : List AV, ext.length = m → AWL P w0 C0 ops rest Q ⟨S.nt, S.slots, S.objs.set i ⟨g, true, .box (cs.take off ++ ext ++ cs.drop (off + m))⟩⟩) :
    AWL P w0 C0 ops (⟨none, .call ⟨.builtin .clear, #[x], #[st]⟩, ty, pos, aft, none⟩ :: rest) Q S := by
  rintro a w ⟨C, T, hs⟩
  obtain ⟨arr, t0, g1, g2⟩ := (hs.objs _ (mem_of_get hi)).1
  have harr := box_get g2
  refine wpList_plain rfl (fun K hK => ?_)
  unfold Oper.wp
  by_cases hm : m = 0
  · subst hm
    have hexec : (execOp a.eval ⟨none, .call ⟨.builtin .clear, #[x], #[st]⟩, ty, pos, aft, none⟩).run P w = .ok (.value (.tuple #[])) w := by
      simp [execOp, resolve, invoke, builtin, hs.evv hx, Builtin.clear_, run_underlying (sliceT_un hst), Sem.run_bind, Result.andThen]
    rw [hexec]
    refine hK _ _ (hr [] rfl _ _ ⟨C, T, ?_⟩)
    have : S.objs.set i ⟨g, true, .box (cs.take off ++ [] ++ cs.drop (off + 0))⟩ = S.objs := by
      apply List.ext_getElem?
      intro j
      rw [List.getElem?_set]
      by_cases hij : i = j
      · subst hij; rw [if_pos rfl]; split
        · rw [hi]; simp
        · rename_i h; rw [List.getElem?_eq_none (by omega)]
      · simp [hij]
    rw [this]
    exact hs
  · obtain rfl := hA (by omega)
    obtain ⟨z, hzz, hzc⟩ := run_zero hz w
    have hvs : (Builtin.zeroCells z.cells m).toList.length = m := by rw [Array.length_toList, size_zeroCells, hzc]; simp [hz1]
    have hone : ∀ v ∈ (Builtin.zeroCells z.cells m).toList, v.oneCell' = true := by
      intro v hv
      rw [hzc] at hv
      simp only [Builtin.zeroCells, Array.toList_map, List.mem_map, Array.mem_toList_iff] at hv
      obtain ⟨q, hq, rfl⟩ := hv
      have hlt : q % zs.toArray.size < zs.toArray.size := Nat.mod_lt _ (by simp [hz1])
      rw [getElem!_pos zs.toArray _ hlt]
      exact hz2 _ (by simp)
    have hst' := run_storeCells_at P g off t0 (Builtin.zeroCells z.cells m).toList 0 arr w g1 (by rw [hvs, harr]; omega) hone
    simp only [Nat.add_zero, hvs] at hst'
    have hexec : (execOp a.eval ⟨none, .call ⟨.builtin .clear, #[x], #[st]⟩, ty, pos, aft, none⟩).run P w = .ok (.value (.tuple #[])) (w.setRow g (arr.toList.take off ++ (Builtin.zeroCells z.cells m).toList ++ arr.toList.drop (off + m)).toArray) := by
      obtain ⟨m', rfl⟩ : ∃ m', m = m' + 1 := ⟨m - 1, by omega⟩
      simp [execOp, resolve, invoke, builtin, hs.evv hx, Builtin.clear_, run_underlying (sliceT_un hst), Sem.run_bind, Result.andThen, hzz, hst']
    rw [hexec]
    refine hK _ _ (hr ((Builtin.zeroCells z.cells m).toList.map AV.v) (by rw [List.length_map, hvs]) _ _ ⟨C, T, ?_⟩)
    have r1 := rels_take_drop g2 0 off
    have r2 := rels_take_drop g2 (off + m) cs.length
    simp only [List.drop_zero] at r1
    rw [List.take_of_length_le (by simp), List.take_of_length_le (by simp; omega)] at r2
    exact hs.setObj hi (w' := w.setRow g (arr.toList.take off ++ (Builtin.zeroCells z.cells m).toList ++ arr.toList.drop (off + m)).toArray) (Nat.le_refl _) rfl rfl rfl (by simp) (fun k hk => setRow_other w g k _ hk) ⟨_, t0, setRow_heap w g arr _ t0 _ g1, by simpa using (r1.append (rels_vals _)).append r2⟩
theorem r_appendV (i : Nat) {x y : Operand} {g n m cap c off : Nat} {A : Addr} {cs : List AV} {st e : TypeId} (hx : S.ev x = some (.a (.v (.slice (some ⟨g, 0, none⟩) n cap)))) (hy : S.ev y = some (.a (.v (.slice (some A) m c)))) (hA : 0 < m → A = ⟨g, off, none⟩) (hi : S.objs[i]? = some ⟨g, true, .box cs⟩)
    (hst : sliceT P st = some e) (hsz : szT P e = some 1) (h1 : ((cs.drop off).take m).all AV.one = true) (hroom : n + m ≤ cap) (hl : n + m ≤ cs.length) (hl2 : off + m ≤ cs.length) (ht : Nat.blt t S.nt = true)
    (hr : AWL P w0 C0 ops rest Q (AState.put ⟨S.nt, S.slots, S.objs.set i ⟨g, true, .box (cs.take n ++ (cs.drop off).take m ++ cs.drop (n + m))⟩⟩ t (.a (.v (.slice (some ⟨g, 0, none⟩) (n + m) cap))))) :
    AWL P w0 C0 ops (⟨some t, .call ⟨.builtin .append, #[x, y], #[st, st]⟩, ty, pos, aft, none⟩ :: rest) Q S := by
  rintro a w ⟨C, T, hs⟩
  obtain ⟨arr, t0, g1, g2⟩ := (hs.objs _ (mem_of_get hi)).1
  have harr := box_get g2
  refine wpList_plain rfl (fun K hK => ?_)
  unfold Oper.wp
  have hexec : ∀ (v : Value) (w' : World), (Builtin.append_ #[st, st] ty #[a.eval x, a.eval y]).run P w = .ok v w' → (execOp a.eval ⟨some t, .call ⟨.builtin .append, #[x, y], #[st, st]⟩, ty, pos, aft, none⟩).run P w = .ok (.value v) w' := by
    intro v w' h
    simp [execOp, resolve, invoke, builtin, h]
  rw [hs.evv hx, hs.evv hy] at hexec
  by_cases hm : m = 0
  · subst hm
    have hrun := run_append_zero (P := P) (w := w) (ty := ty) hst hsz (some ⟨g, 0, none⟩) (some A) n cap c (by omega)
    rw [hexec _ _ hrun]
    refine hK _ _ ?_
    have : S.objs.set i ⟨g, true, .box (cs.take n ++ (cs.drop off).take 0 ++ cs.drop (n + 0))⟩ = S.objs := by
      apply List.ext_getElem?
      intro j
      rw [List.getElem?_set]
      by_cases hij : i = j
      · subst hij; rw [if_pos rfl]; split
        · rw [hi]; simp
        · rename_i h; rw [List.getElem?_eq_none (by omega)]
      · simp [hij]
    rw [this] at hr
    exact hr _ _ ⟨C, T, hs.put ht (srel_v _)⟩
  · obtain rfl := hA (by omega)
    have hnl : ((arr.toList.drop off).take m).length = m * 1 := by simp [harr]; omega
    have hws : ∀ (j : Nat) (v : Value), ((arr.toList.drop off).take m)[j]? = some v → w.cell? ((⟨g, off, none⟩ : Addr).add j) = some v := fun j v hj => by
      rw [List.getElem?_take] at hj
      split at hj
      · rw [List.getElem?_drop] at hj
        rw [addr_add, cell_of_row w g (off + j) arr t0 (0, 0) g1]; simpa using hj
      · cases hj
    have hone : ∀ v ∈ (arr.toList.drop off).take m, v.oneCell' = true := (rels_take_drop g2 off m).ones h1
    have hrun := run_append_room' (P := P) (w := w) (ty := ty) hst hsz t0 g n cap arr g1 ⟨g, off, none⟩ m c _ hnl hws hone hroom (by rw [hnl, harr]; omega)
    rw [Nat.mul_one, hnl, Nat.mul_one] at hrun
    rw [hexec _ _ hrun]
    refine hK _ _ (hr _ _ ⟨C, T, SimC.put ?_ ht (srel_v _)⟩)
    have r1 := rels_take_drop g2 0 n
    have r3 := rels_take_drop g2 off m
    have r2 := rels_take_drop g2 (n + m) cs.length
    simp only [List.drop_zero] at r1
    rw [List.take_of_length_le (by simp), List.take_of_length_le (by simp; omega)] at r2
    exact hs.setObj hi (w' := w.setRow g (arr.toList.take n ++ (arr.toList.drop off).take m ++ arr.toList.drop (n + m)).toArray) (Nat.le_refl _) rfl rfl rfl (by simp) (fun k hk => setRow_other w g k _ hk) ⟨_, t0, setRow_heap w g arr _ t0 _ g1, by simpa using (r1.append r3).append r2⟩
theorem r_sliceVLd {st e : TypeId} {sz g off n cap : Nat} {x y : Operand} {k : IntKind} {lo : Int} (hx : S.ev x = some (.a (.v (.slice (some ⟨g, off, none⟩) n cap)))) (hy : S.ev y = some (.a (.v (.int k lo)))) (hst : sliceT P st = some e) (hsz : szT P e = some sz) (h0 : 0 ≤ lo) (h1 : lo ≤ n) (hc : n ≤ cap) (ht : Nat.blt t S.nt = true)
    (hr : AWL P w0 C0 ops rest Q (S.put t (.a (.v (.slice (some (if cap = lo.toNat then ⟨g, off, none⟩ else ⟨g, off + lo.toNat * sz, none⟩)) (n - lo.toNat) (cap - lo.toNat)))))) : AWL P w0 C0 ops (⟨some t, .slice st x (some y) none none, ty, pos, aft, none⟩ :: rest) Q S :=
  awl_pure ht (fun C T a w hs => by
    obtain ⟨hu', he⟩ := sliceT_el hst
    have hrun := (run_sliceAt_slice w st (.slice (some ⟨g, off, none⟩) n cap) _ _ _ hu').trans (run_slice_l w st (some ⟨g, off, none⟩) n cap hu' k lo h0 h1)
    rw [he, run_sz hsz] at hrun
    simp only [Result.andThen] at hrun
    refine ⟨sliced (some ⟨g, off, none⟩) lo.toNat n cap sz, by simp [execOp, hs.evv hx, hs.evv hy, hrun], ?_⟩
    have hv : sliced (some ⟨g, off, none⟩) lo.toNat n cap sz = .slice (some (if cap = lo.toNat then ⟨g, off, none⟩ else ⟨g, off + lo.toNat * sz, none⟩)) (n - lo.toNat) (cap - lo.toNat) := by
      unfold sliced
      split <;> simp [*, addr_add]
    rw [hv]; exact srel_v _) hr
theorem imp_boxEq (i : Nat) {g : Nat} {cs : List AV} (cs' : List AV) (hi : S.objs[i]? = some ⟨g, true, .box cs⟩) (h : cs = cs') : Imp w0 C0 S ⟨S.nt, S.slots, S.objs.set i ⟨g, true, .box cs'⟩⟩ := by
  subst h
  have : S.objs.set i ⟨g, true, .box cs⟩ = S.objs := by
    apply List.ext_getElem?
    intro j
    rw [List.getElem?_set]
    by_cases hij : i = j
    · subst hij; rw [if_pos rfl]; split
      · exact hi.symm
      · rename_i h; rw [List.getElem?_eq_none (by omega)]
    · simp [hij]
  rw [this]
  exact fun a w h => h
section
variable {K α : Type} [DecidableEq K] {ek : K → Value} {ev : α → AV} {kt et : TypeId}
end
end Go.Proofs.YtcbhhjahjnlfhaaDoor.A
namespace Go.Proofs.YtcbhhjahjnlfhaaDoor.A
open Go Go.RowKit Go.Maps Go.Sort
set_option linter.unusedVariables false
set_option linter.unusedSimpArgs false
set_option linter.unusedSectionVars false
variable {P : Program} {w0 : Base} {C0 C : CS} {T : TS} {S S' : AState} {a : Act} {w : World} {ops : Array Oper} {rest : List Oper} {o : Oper} {Q : Exit → AState → Prop}
def bts (l : List UInt8) : AV := .sl 1 (u8s l)
structure File where
  name : ByteArray
  data : List UInt8
def File.cs (f : File) : List AV := [.v (.string f.name), bts f.data]
def files (l : List File) : AV := .sl 2 (l.map File.cs)
structure FC where
  kind : Int
  name : ByteArray
  to : ByteArray
  data : List UInt8
def FC.cs (c : FC) : List AV := [.v (.int .i64 c.kind), .v (.string c.name), .v (.string c.to), bts c.data]
def fcsA (l : List FC) : AV := .sl 4 (l.map FC.cs)
def strA (s : ByteArray) : AV := .v (.string s)
def boolA (b : Bool) : AV := .v (.bool b)
def E0 : ByteArray := ⟨#[]⟩
def strsC (l : List ByteArray) : List AV := l.map fun s => .v (.string s)
theorem strsC_len (l : List ByteArray) : (strsC l).length = l.length := by simp [strsC]
def GrowS (l : List ByteArray) (r : AV) (n : List OE) : Prop :=
  (l = [] ∧ r = .v (.slice none 0 0) ∧ n = []) ∨ ∃ g cap ext, cap = l.length + ext.length ∧ r = .v (.slice (some ⟨g, 0, none⟩) l.length cap) ∧ n = [⟨g, true, .box (strsC l ++ ext)⟩]
theorem str_at {l : List ByteArray} {ext : List AV} {k : Nat} {x : ByteArray} (h : l[k]? = some x) : (strsC l ++ ext)[0 + k * 1]? = some (.v (.string x)) := by
  have hk := (List.getElem?_eq_some_iff.1 h).1
  rw [Nat.zero_add, Nat.mul_one, List.getElem?_append_left (by simpa [strsC] using hk)]
  simp [strsC, h]
theorem str_set {l : List ByteArray} {ext : List AV} {k : Nat} {x : ByteArray} (h : k < l.length) : (strsC l ++ ext).take (0 + k * 1) ++ [AV.v (.string x)] ++ (strsC l ++ ext).drop (0 + k * 1 + 1) = strsC (l.set k x) ++ ext := by
  rw [Nat.zero_add, Nat.mul_one]
  apply List.ext_getElem?
  intro j
  have hl := strsC_len l
  have hl2 := strsC_len (l.set k x)
  rw [List.length_set] at hl2
  by_cases hj : j < l.length
  · rw [List.getElem?_append_left (l₁ := strsC (l.set k x)) (by omega)]
    by_cases hjk : j = k
    · subst hjk
      rw [List.getElem?_append_left (by simp [hl]; omega), List.getElem?_append_right (by simp [hl]; omega)]
      simp [strsC, hj, Nat.min_eq_left (Nat.le_of_lt (show j < l.length + ext.length by omega))]
    · rcases Nat.lt_or_gt_of_ne hjk with hlt | hgt
      · rw [List.getElem?_append_left (by simp [hl]; omega), List.getElem?_append_left (by simp [hl]; omega), List.getElem?_take, if_pos hlt, List.getElem?_append_left (by omega)]
        simp [strsC, List.getElem?_set, show ¬ k = j from fun e => hjk e.symm]
      · rw [List.getElem?_append_right (by simp [hl]; omega), List.getElem?_drop]
        simp only [List.length_append, List.length_take, List.length_singleton, hl]
        rw [show k + 1 + (j - (min k (l.length + ext.length) + 1)) = j by omega, List.getElem?_append_left (by omega)]
        simp [strsC, List.getElem?_set, show ¬ k = j by omega]
  · rw [List.getElem?_append_right (l₁ := strsC (l.set k x)) (by omega), List.getElem?_append_right (by simp [hl]; omega), List.getElem?_drop]
    simp only [List.length_append, List.length_take, List.length_singleton, hl, hl2]
    rw [show k + 1 + (j - (min k (l.length + ext.length) + 1)) = j by omega, List.getElem?_append_right (by omega), hl]
theorem ac_sortedG {f it k : Nat} (hf : SortsIt P f it k) (hk : P.underlying k = some .string) {g b : Nat} {rg rw' : Bool} {es : List (Value × AV)} {ss : List ByteArray} (hes : es.map (·.1) = ss.map Value.string) (hnd : ss.Nodup) (hsz : ∀ s ∈ ss, s.size ≤ maxLen) (hlen : es.length ≤ 1000000) :
    AC P f [.fn it [.v (.pointer (some ⟨g, 0, none⟩))]] [⟨g, rg, .box [.v (.map (some b))]⟩, ⟨b, rw', .map es⟩] (GrowS (sortB ss)) := by
  intro C w vals hcom hrels hobjs
  obtain ⟨v0, vs0, hv, hr0, hr1⟩ := hrels.cons_inv
  have hv0 : vs0 = [] := hr1.nil_inv
  subst hv0
  obtain ⟨arr, rfl⟩ : ∃ arr, v0 = .func (.func it) #[] arr := by cases hr0; exact ⟨_, rfl⟩
  obtain ⟨u, us, hu, hu1, hu2⟩ := (rel_fn.1 hr0).cons_inv
  cases hu1
  have hus := hu2.nil_inv
  subst hus
  obtain rfl : arr = #[.pointer (some ⟨g, 0, none⟩)] := by apply Array.ext'; simpa using hu
  obtain rfl : vals = #[.func (.func it) #[] #[.pointer (some ⟨g, 0, none⟩)]] := by apply Array.ext'; simpa using hv
  obtain ⟨barr, bt, hbg, hbr⟩ : ObjRel C g (.box [.v (.map (some b))]) w := (hobjs.1 ⟨g, rg, .box [.v (.map (some b))]⟩ (by simp)).1
  have hcell : w.cell? ⟨g, 0, none⟩ = some (.map (some b)) := by
    obtain ⟨x, xs, hx, hx1, hx2⟩ := hbr.cons_inv
    cases hx1
    rw [cell_of_row w g 0 barr bt (0, 0) hbg]
    have := congrArg (·[0]?) hx
    simpa using this
  obtain ⟨D0, h1, h2, h3⟩ := map_owned (C := C) hk hes hnd hsz (by unfold maxLen; omega) (hobjs.1 ⟨b, rw', .map es⟩ (by simp)).1
  refine (hf g b _ D0 _ w (Array.getElem?_eq_some_iff.1 hbg).1 hcell h1 (by rw [h3]; unfold maxLen; omega) (by rw [h3]; omega)).mono ?_
  rintro e w' ⟨v, ss', rfl, hp, ⟨hl, hrow⟩, hnil, hb⟩
  have hsort : (ss'.mergeSort (fun x y => decide (x ≤ y))) = ((ss.map (·.data.toList)).mergeSort (fun x y => decide (x ≤ y))) := mergeSort_of_perm (hp.trans h2)
  rw [hsort] at hrow hl
  have hlb : ∀ b o v, C b o = some v → b < w.heap.size := fun b o v hc => by have := World.block_lt_of_cell? w _ (hcom.1 _ _ _ hc).cell; simpa using this
  have hcom' : ∀ b o v, C b o = some v → CellOk w' b o v := fun b o v hc => by
    exact (hcom.1 b o v hc).keep (hb.block b (hlb _ _ _ hc))
  have hlen' : (sortB ss).length = ss'.length := by
    unfold sortB; rw [List.length_map, ← hsort, List.length_mergeSort]
  rcases hrow with ⟨rfl, hn⟩ | ⟨g, cap, cur, rfl, hg, hgb, hcap, _, hcs, htk⟩
  · have hz : sortB ss = [] := List.eq_nil_of_length_eq_zero (by omega)
    exact ⟨_, C, _, [], rfl, .inl ⟨hz, rfl, rfl⟩, hb, fun _ _ _ => rfl, ⟨hcom', hcom.2⟩, .v _, ⟨by simp, by simp⟩, by simp⟩
  · have hcl : cur.toList.length = cap := by simpa using hcs
    refine ⟨_, C, _, _, rfl, .inr ⟨g, cap, (cur.toList.drop ss'.length).map AV.v, by simp [hlen', hcl]; omega, rfl, rfl⟩, hb, fun _ _ _ => rfl, ⟨hcom', hcom.2⟩, by rw [hlen']; exact .v _, ⟨fun e he => ?_, by simp⟩, fun e he => ?_⟩
    · obtain rfl := List.mem_singleton.1 he
      refine ⟨⟨cur, k, hgb, ?_⟩, fun o => ?_⟩
      · have e1 : strsC (sortB ss) = (cur.toList.take ss'.length).map AV.v := by
          rw [Nat.mul_one] at htk
          rw [htk]
          unfold strsC sortB
          rw [List.map_map, List.map_map]
          rfl
        rw [e1, ← List.map_append, List.take_append_drop]
        exact rels_vs _
      · cases hc : C g o with
        | none => rfl
        | some v => exact absurd (hlb _ _ _ hc) (by omega)
    · obtain rfl := List.mem_singleton.1 he
      exact hg
theorem strs_flat : ∀ l : List ByteArray, (l.map fun s => [AV.v (.string s)]).flatten = strsC l
  | [] => rfl
  | x :: l => by rw [List.map_cons, List.flatten_cons, strs_flat l]; rfl
theorem awl_boxBuf (i : Nat) {g cap : Nat} {l : List ByteArray} {ext : List AV} {lst : List Oper} (hi : S.objs[i]? = some ⟨g, true, .box (strsC l ++ ext)⟩) (hc : cap = l.length + ext.length)
    (hr : ∀ e, AWL P w0 C0 ops lst Q ⟨S.nt, S.slots, S.objs.set i ⟨g, true, .buf 1 (l.map fun s => [.v (.string s)]) cap e⟩⟩) : AWL P w0 C0 ops lst Q S := by
  rintro a w ⟨C, T, hs⟩
  obtain ⟨arr, t0, g1, g2⟩ := (hs.objs _ (mem_of_get hi)).1
  have harr := box_get g2
  refine hr t0 a w ⟨C, T, ?_⟩
  have hfl := strs_flat l
  refine hs.setObj hi (w' := w) (Nat.le_refl _) rfl rfl rfl rfl (fun _ _ => rfl) ⟨arr, g1, by rw [harr]; simp [strsC_len, hc], by simp; omega, fun cs hcs => by obtain ⟨s, _, rfl⟩ := List.mem_map.1 hcs; rfl, arr.toList.take l.length, ?_, fun v hv => ?_, by simp⟩
  · rw [hfl]
    have := rels_take_drop g2 0 l.length
    simp only [List.drop_zero] at this
    rwa [show (strsC l ++ ext).take l.length = strsC l from by rw [← strsC_len l, List.take_left]] at this
  · have := rels_take_drop g2 0 l.length
    simp only [List.drop_zero] at this
    rw [show (strsC l ++ ext).take l.length = strsC l from by rw [← strsC_len l, List.take_left]] at this
    exact this.ones (by simp [strsC, AV.one, Value.oneCell']) v hv
def lookF (l : List File) (s : ByteArray) : Option (List UInt8) := (l.find? (fun f => decide (f.name = s))).map (·.data)
structure TellsS (m : List (ByteArray × List UInt8)) (l : List File) : Prop where
  nd : (m.map (·.1)).Nodup
  get : ∀ s, mget m s = lookF l s
  len : m.length ≤ l.length
theorem tellsS_nil : TellsS [] [] := ⟨by simp, fun s => rfl, by simp⟩
theorem tellsS_has {m : List (ByteArray × List UInt8)} {l : List File} {k : Nat} {x : File} (h : TellsS m (l.take k)) (hx : l[k]? = some x) (hg : (mget m x.name).isSome = true) : TellsS m (l.take (k + 1)) := by
  refine ⟨h.nd, fun p => ?_, Nat.le_trans h.len (by simp; omega)⟩
  rw [h.get]
  rw [h.get] at hg
  unfold lookF at *
  rw [takeS hx, List.find?_append]
  cases hf : (l.take k).find? (fun e => decide (e.name = p)) with
  | some y => simp
  | none =>
    by_cases hp : x.name = p
    · rw [hp, hf] at hg; simp at hg
    · simp [hp]
theorem tellsS_new {m : List (ByteArray × List UInt8)} {l : List File} {k : Nat} {x : File} (h : TellsS m (l.take k)) (hx : l[k]? = some x) (hg : (mget m x.name).isSome = false) : TellsS (mset m x.name x.data) (l.take (k + 1)) := by
  have hk := (List.getElem?_eq_some_iff.1 hx).1
  refine ⟨mset_nodup h.nd, fun p => ?_, ?_⟩
  · rw [mget_mset, h.get]
    rw [h.get] at hg
    unfold lookF at *
    rw [takeS hx, List.find?_append]
    by_cases hp : x.name = p
    · rw [hp] at hg
      cases hf : (l.take k).find? (fun e => decide (e.name = p)) with
      | some y => rw [hf] at hg; simp at hg
      | none => simp [hp]
    · cases hf : (l.take k).find? (fun e => decide (e.name = p)) <;> simp [hp]
  · have h1 := h.len
    have := mset_len (m := m) (k := x.name) (v := x.data)
    simp at h1 ⊢; omega
def namesF (l : List File) : List ByteArray := l.foldl (fun ns f => insS ns f.name) []
theorem namesF_mem (x : ByteArray) : ∀ (l : List File) (ns : List ByteArray), x ∈ l.foldl (fun ns f => insS ns f.name) ns ↔ x ∈ ns ∨ ∃ f ∈ l, f.name = x
  | [], ns => by simp
  | f :: r, ns => by
    rw [List.foldl_cons, namesF_mem x r, insS_mem]
    constructor
    · rintro ((h | h) | ⟨y, hy, h⟩)
      · exact .inr ⟨f, by simp, h.symm⟩
      · exact .inl h
      · exact .inr ⟨y, by simp [hy], h⟩
    · rintro (h | ⟨y, hy, h⟩)
      · exact .inl (.inr h)
      · rcases List.mem_cons.1 hy with rfl | hy
        · exact .inl (.inl h.symm)
        · exact .inr ⟨y, hy, h⟩
theorem namesF_sorted : ∀ (l : List File) (ns : List ByteArray), SortedS ns → SortedS (l.foldl (fun ns f => insS ns f.name) ns)
  | [], ns, h => h
  | f :: r, ns, h => namesF_sorted r _ (insS_sorted h)
theorem names_in {l : List File} {s : ByteArray} : s ∈ namesF l ↔ (lookF l s).isSome = true := by
  unfold namesF lookF
  rw [namesF_mem]
  simp [List.find?_isSome]
theorem names_ok (l : List File) : SortedS (namesF l) := namesF_sorted l [] List.Pairwise.nil
theorem names_len (l : List File) : (namesF l).length ≤ l.length := by
  have : ∀ (l : List File) (ns : List ByteArray), (l.foldl (fun ns f => insS ns f.name) ns).length ≤ ns.length + l.length := by
    intro l
    induction l with
    | nil => simp
    | cons f l ih =>
      intro ns
      rw [List.foldl_cons]
      have := ih (insS ns f.name)
      have h2 := insS_len (n := f.name) (l := ns)
      simp; omega
  have := this l []; simpa [namesF] using this
theorem keys_names {m : List (ByteArray × List UInt8)} {l : List File} (h : TellsS m l) : sortB (m.map (·.1)) = namesF l :=
  sortedS_ext (sortB_sorted h.nd) (names_ok l) (fun x => by rw [sortB_mem, ← mget_some, h.get, names_in])
theorem AC.swap {P : Program} {f : FuncId} {args : List AV} {e1 e2 : OE} {R : AV → List OE → Prop} (h : AC P f args [e1, e2] R) : AC P f args [e2, e1] R := fun C w vals h1 h2 h3 =>
  h C w vals h1 h2 ⟨fun e he => h3.1 e (by simp at he ⊢; exact he.symm), (List.Perm.pairwise_iff (R := fun e e' : OE => e.b ≠ e'.b) (fun h => fun k => h k.symm) (List.Perm.swap e1 e2 [])).1 h3.2⟩
theorem fmS_step {α β : Type} {f : α → Option β} {l : List α} {k : Nat} {x : α} (h : l[k]? = some x) : (l.take (k + 1)).filterMap f = (l.take k).filterMap f ++ (f x).toList := by
  rw [takeS h, List.filterMap_append]
  cases hf : f x <;> simp [hf]
theorem look_len {l : List File} {n : Nat} (h : ∀ f ∈ l, f.data.length ≤ n) (s : ByteArray) : ((lookF l s).getD []).length ≤ n := by
  unfold lookF
  cases hf : l.find? (fun f => decide (f.name = s)) with
  | none => simp
  | some f => simpa using h f (List.mem_of_find?_eq_some hf)
theorem keys_size {m : List (ByteArray × List UInt8)} {l : List File} (h : TellsS m l) (hl : ∀ f ∈ l, f.name.size ≤ 1000000) : ∀ s ∈ m.map (·.1), s.size ≤ maxLen := fun s hs => by
  rw [← mget_some, h.get] at hs
  unfold lookF at hs
  simp [List.find?_isSome] at hs
  obtain ⟨f, hf, rfl⟩ := hs
  have := hl f hf; unfold maxLen; omega
def hitF (a b : List File) (s t : ByteArray) : Bool := decide (0 < ((lookF a s).getD []).length) && decide ((lookF a s).getD [] = (lookF b t).getD [])
def stepO (a b : List File) (st : List ByteArray × List FC × List FC) (s : ByteArray) : List ByteArray × List FC × List FC :=
  match st.1.findIdx? (hitF a b s) with
  | none => (st.1, st.2.1, st.2.2 ++ [⟨2, s, E0, []⟩])
  | some i => (st.1.eraseIdx i, st.2.1 ++ [⟨4, s, st.1.getD i E0, []⟩], st.2.2)
def wentF (a b : List File) : List ByteArray := (namesF a).filter (fun s => !(lookF b s).isSome)
def splitF (a b : List File) (k : Nat) : List ByteArray × List FC × List FC := ((wentF a b).take k).foldl (stepO a b) (wentF b a, [], [])
def chgF (a b : List File) (s : ByteArray) : Option FC :=
  match lookF b s with
  | some d => cond (decide ((lookF a s).getD [] = d)) none (some ⟨3, s, E0, d⟩)
  | none => none
def addF (b : List File) (s : ByteArray) : FC := ⟨1, s, E0, (lookF b s).getD []⟩
def splitE (a b : List File) : List ByteArray × List FC × List FC := splitF a b (wentF a b).length
def OfF (a b : List File) : List FC := (splitE a b).2.1 ++ (splitE a b).2.2 ++ (namesF a).filterMap (chgF a b) ++ (splitE a b).1.map (addF b)
theorem went_eq {a b : List File} {ma mb : List (ByteArray × List UInt8)} (ha : TellsS ma a) (hb : TellsS mb b) : (sortB (ma.map (·.1))).filter (fun s => !(mget mb s).isSome) = wentF a b := by
  unfold wentF
  rw [keys_names ha]
  congr 1; funext s; rw [hb.get]
theorem went_len (a b : List File) : (wentF a b).length ≤ a.length := Nat.le_trans (List.length_filter_le _ _) (names_len a)
theorem split_none {a b : List File} {k : Nat} {s : ByteArray} {came : List ByteArray} {out gone : List FC} (hs : (wentF a b)[k]? = some s) (h : splitF a b k = (came, out, gone)) (hn : came.findIdx? (hitF a b s) = none) :
    splitF a b (k + 1) = (came, out, gone ++ [⟨2, s, E0, []⟩]) := by
  unfold splitF at *
  rw [fold_take hs, h, stepO]; simp only [hn]
theorem split_some {a b : List File} {k i : Nat} {s t : ByteArray} {came : List ByteArray} {out gone : List FC} (hs : (wentF a b)[k]? = some s) (h : splitF a b k = (came, out, gone)) (hn : came.findIdx? (hitF a b s) = some i) (ht : came[i]? = some t) :
    splitF a b (k + 1) = (came.eraseIdx i, out ++ [⟨4, s, t, []⟩], gone) := by
  unfold splitF at *
  rw [fold_take hs, h, stepO]; simp only [hn, List.getD_eq_getElem?_getD, ht, Option.getD_some]
end Go.Proofs.YtcbhhjahjnlfhaaDoor.A
namespace Go.Proofs.YtcbhhjahjnlfhaaDoor.A
open Go Go.RowKit
set_option linter.unusedVariables false
set_option linter.unusedSimpArgs false
set_option linter.unusedSectionVars false
variable {P : Program} {w0 : Base} {C0 C : CS} {T : TS} {S S' : AState} {a : Act} {w : World} {ops : Array Oper} {rest : List Oper} {o : Oper} {Q : Exit → AState → Prop}
variable {t : Nat} {ty : TypeId} {pos : String} {aft : Array Edge}
theorem made_one (z : Value) (n : Nat) : (madeCells #[z] n).toList = List.replicate n z := by
  unfold madeCells
  rw [Array.toList_map, Array.toList_range]
  apply List.ext_getElem?
  intro i
  rw [List.getElem?_map]
  by_cases h : i < n
  · rw [List.getElem?_range h]
    simp [h, Nat.mod_one]
  · rw [List.getElem?_eq_none (by simpa using h), List.getElem?_eq_none (by simpa using h)]; rfl
theorem r_makeSlice {st e bytes : Nat} {zv : Value} {x y : Operand} {k k' : IntKind} {n : Nat} (hx : S.ev x = some (.a (.v (.int k (n : Int))))) (hy : S.ev y = some (.a (.v (.int k' (n : Int))))) (hst : sliceT P st = some e) (hsz : szT P e = some 1) (hby : bytesT P e = some bytes) (hz : zeroT P e = some [zv])
    (hb : bytes * n ≤ 281474976710656) (hn : n ≤ 1000000000) (ht : Nat.blt t S.nt = true)
    (hr : ∀ b, AWL P w0 C0 ops rest Q (AState.put ⟨S.nt, S.slots, ⟨b, true, .box (List.replicate n (.v zv))⟩ :: S.objs⟩ t (.a (.v (.slice (some ⟨b, 0, none⟩) n n))))) :
    AWL P w0 C0 ops (⟨some t, .makeSlice st x y, ty, pos, aft, none⟩ :: rest) Q S := by
  rintro a w ⟨C, T, hs⟩
  unfold szT at hsz
  unfold bytesT at hby
  unfold zeroT at hz
  cases hi : P.info? e with
  | none => rw [hi] at hsz; cases hsz
  | some i =>
    rw [hi] at hsz hby hz
    simp only [Option.map_some, Option.some.injEq, Option.bind_some] at hsz hby hz
    cases hiz : i.zero with
    | none => rw [hiz] at hz; cases hz
    | some z =>
      rw [hiz] at hz
      simp only [Option.map_some, Option.some.injEq] at hz
      have hzc : z.cells = #[zv] := by apply Array.ext'; simpa using hz
      have hbi : (i.bytes : Int) * (n : Int) ≤ 281474976710656 := by
        rw [hby]
        have : ((bytes * n : Nat) : Int) ≤ 281474976710656 := by omega
        rwa [Int.natCast_mul] at this
      have hrun := run_make (P := P) w st e i z (sliceT_un hst) hi hiz k k' (n : Int) (n : Int) (by omega) (Int.le_refl _) hbi (by omega)
      rw [hzc, hsz, Nat.mul_one] at hrun
      simp only [Int.toNat_natCast] at hrun
      refine wpList_plain rfl (fun K hK => ?_)
      unfold Oper.wp
      have hex : (execOp a.eval ⟨some t, .makeSlice st x y, ty, pos, aft, none⟩).run P w = .ok (.value (.slice (some ⟨w.heap.size, 0, none⟩) n n)) (w.alloc (.cells (madeCells #[zv] n) e)) := by
        simp [execOp, Sem.run_bind, hs.evv hx, hs.evv hy, hrun]
      rw [hex]
      have hs' := hs.newObj (.cells (madeCells #[zv] n) e) (o := .box (List.replicate n (.v zv))) ⟨_, e, heap_alloc_at _ _, by
        rw [made_one]
        have := rels_vs (C := C) (List.replicate n zv)
        rwa [List.map_replicate] at this⟩
      exact hK _ _ (hr w.heap.size _ _ ⟨C, T, hs'.put ht (srel_v _)⟩)
def noU8 : Value → Bool
  | .int .u8 _ => false
  | _ => true
theorem awl_ownbufG (t : Nat) {tok sz : Nat} {l : List (List AV)} {lst : List Oper} (hg : S.get t = some (.own tok sz l)) (hflat : ∀ cs ∈ l, ∀ c ∈ cs, (∃ v, c = AV.v v ∧ noU8 v = true) ∨ ∃ d, c = AV.sl 1 (u8s d)) (htn : Nat.blt t S.nt = true)
    (h0 : l = [] → AWL P w0 C0 ops lst Q ⟨S.nt, [(t, .a (.v (.slice none 0 0)))], []⟩)
    (h1 : ∀ g cap e, AWL P w0 C0 ops lst Q ⟨S.nt, [(t, .a (.v (.slice (some ⟨g, 0, none⟩) l.length cap)))], [⟨g, true, .buf sz l cap e⟩]⟩) : AWL P w0 C0 ops lst Q S := by
  rintro a w ⟨C, T, hs⟩
  have hone : ∀ (u : Value) (S1 : List (Nat × SV)), S1 = [(t, .a (.v u))] → a.tmps.getD t undef = u → ∀ C T, ∀ t' x', find t' S1 = some x' → SRel C T x' (a.tmps.getD t' undef) := by
    intro u S1 e1 e2 C T t' x' hx'
    subst e1
    rw [find_cons] at hx'
    split at hx'
    · rename_i e; subst e; cases hx'; rw [e2]; exact srel_v _
    · cases hx'
  rcases hs.slots t _ hg with ⟨hl, hu⟩ | ⟨b, cap, e, hT, hcap, hu, hrow⟩
  · refine h0 hl a w ⟨C, fun _ => none, ?_⟩
    exact ⟨hs.below, hs.com, hs.one, hs.old, by simp, by simp, by simp, by simp, hs.size, hone _ _ rfl hu _ _, hs.defers, hs.dr⟩
  · refine h1 b cap e a w ⟨fun b' o => if b' = b then none else C b' o, fun _ => none, ?_⟩
    obtain ⟨⟨k1, k2, ⟨arr, k3, k4⟩, k5⟩, _⟩ := hs.toks _ _ hT
    simp only at k1 k2 k3 k4 k5
    have hfit : l.length * sz ≤ cap * sz := Nat.mul_le_mul_right _ hcap
    -- no cell of the row is a byte
    have hnb : ∀ o v, C b o = some v → noU8 v = true := by
      intro o v hv
      have ho : o < l.length * sz := Nat.lt_of_not_le fun h => by rw [k5 o h] at hv; cases hv
      rcases Nat.eq_zero_or_pos sz with hz0 | hz0
      · subst hz0; omega
      have hi : o / sz < l.length := by rw [Nat.div_lt_iff_lt_mul hz0]; exact ho
      obtain ⟨cs, hcs⟩ := get_lt hi
      have hcl := hrow.1 cs (List.mem_of_getElem? hcs)
      have hj : o % sz < cs.length := by rw [hcl]; exact Nat.mod_lt _ hz0
      obtain ⟨c, hc⟩ := get_lt hj
      obtain ⟨u, hu1, hu2⟩ := hrow.2 _ _ _ _ hcs hc
      rw [show 0 + o / sz * sz + o % sz = o by have := Nat.div_add_mod o sz; rw [Nat.mul_comm] at this; omega] at hu1
      rw [hv] at hu1; cases hu1
      rcases hflat cs (List.mem_of_getElem? hcs) c (List.mem_of_getElem? hc) with ⟨v', rfl, hv'⟩ | ⟨d, rfl⟩
      · cases hu2; exact hv'
      · obtain ⟨A, cap', b', o', rfl, _⟩ := rel_sl_inv hu2; rfl
    -- bytes lie elsewhere
    have hkeep : ∀ (d : List UInt8) (u : Value), Rel C (.sl 1 (u8s d)) u → Rel (fun b' o => if b' = b then none else C b' o) (.sl 1 (u8s d)) u := by
      intro d u hr
      obtain ⟨A, cap', b', o', rfl, q1, q2, q3⟩ := rel_sl_inv hr
      by_cases hd : d = []
      · subst hd
        exact rel_sl_mk b' o' rfl q1 (fun h => absurd rfl h) ⟨by simp [u8s], fun i cs j c h => by simp [u8s] at h⟩
      · have hne : b' ≠ b := by
          intro hbb
          subst hbb
          obtain ⟨x, d', rfl⟩ := List.exists_cons_of_ne_nil hd
          obtain ⟨u1, hu1, hu2⟩ := q3.2 0 [.v (.int .u8 x.toNat)] 0 (.v (.int .u8 x.toNat)) rfl rfl
          cases hu2
          have := hnb _ _ hu1
          cases this
        refine rel_sl_mk b' o' rfl q1 q2 ⟨q3.1, fun i cs j c h h' => ?_⟩
        obtain ⟨u1, hu1, hu2⟩ := q3.2 i cs j c h h'
        refine ⟨u1, by simp only [hne, if_false]; exact hu1, ?_⟩
        obtain ⟨x, hx⟩ : ∃ x : UInt8, cs = [.v (.int .u8 x.toNat)] := by
          have := List.mem_of_getElem? h
          obtain ⟨x, _, hx⟩ := List.mem_map.1 this
          exact ⟨x, hx.symm⟩
        subst hx
        have hc := List.mem_of_getElem? h'
        rw [List.mem_singleton] at hc
        subst hc
        cases hu2; exact .v _
    refine ⟨hs.below, fun b' o v h => ?_, fun b' o v h => ?_, fun b' o hb hn => ?_, fun e' he => ?_, by simp, by simp, by simp, hs.size, hone _ _ rfl hu _ _, hs.defers, hs.dr⟩
    · split at h
      · cases h
      · exact hs.com _ _ _ h
    · split at h
      · cases h
      · exact hs.one _ _ _ h
    · have : ¬ b' = b := by omega
      simp only [this, if_false]; exact hs.old _ _ hb hn
    · obtain rfl := List.mem_singleton.1 he
      refine ⟨⟨arr, k3, k4, hcap, hrow.1, arr.toList.take (l.length * sz), ⟨?_, ?_⟩, ?_, rfl⟩, fun o => by simp, fun _ => .inl k1⟩
      · have k4' : arr.toList.length = cap * sz := by simpa using k4
        rw [List.length_take, flat_len hrow.1, k4']; omega
      · intro j c u hc hu'
        obtain ⟨cs, hcs, hcm⟩ := List.mem_flatten.1 (List.mem_of_getElem? hc)
        have hcase := hflat cs hcs c hcm
        have hjl := (List.getElem?_eq_some_iff.1 hc).1
        obtain ⟨ws, w1, w2, w3⟩ := hrow.vals
        have hjw : j < ws.length := by rw [w1.1]; exact hjl
        have h3 := w3 j _ (List.getElem?_eq_getElem hjw)
        have h4 := (hs.com _ _ _ h3).cell
        rw [cell_of_row w b (0 + j) arr e (0, 0) k3] at h4
        rw [flat_len hrow.1] at hjl
        rw [List.getElem?_take, if_pos hjl] at hu'
        have h5 := w1.2 j c ws[j] hc (List.getElem?_eq_getElem hjw)
        rw [Nat.zero_add] at h4
        have : some u = some (ws[j]) := by rw [← hu', ← h4]; simp
        cases this
        rcases hcase with ⟨v, rfl, _⟩ | ⟨d, rfl⟩
        · cases h5; exact .v _
        · exact hkeep d _ h5
      · intro v hv
        obtain ⟨j, hj⟩ := List.getElem?_of_mem hv
        obtain ⟨ws, w1, w2, w3⟩ := hrow.vals
        have hjl := (List.getElem?_eq_some_iff.1 hj).1
        rw [List.length_take] at hjl
        have hjw : j < ws.length := by rw [w2]; omega
        have h3 := w3 j _ (List.getElem?_eq_getElem hjw)
        have h4 := (hs.com _ _ _ h3).cell
        rw [cell_of_row w b (0 + j) arr e (0, 0) k3, Nat.zero_add] at h4
        rw [List.getElem?_take, if_pos (by omega)] at hj
        have : some v = some (ws[j]) := by rw [← hj, ← h4]; simp
        cases this
        exact hs.one _ _ _ h3
end Go.Proofs.YtcbhhjahjnlfhaaDoor.A
namespace Go.Proofs.YtcbhhjahjnlfhaaDoor.A
open Go Go.RowKit
set_option linter.unusedVariables false
set_option linter.unusedSimpArgs false
set_option linter.unusedSectionVars false
variable {P : Program}
noncomputable def C0 (W : World) : CS := by
  classical
  exact fun b o => match W.cell? ⟨b, o, none⟩ with | some v => if v.oneCell' = true ∧ (PTC = true → isSl v = true → Plain W b) then some v else none | none => none
theorem C0_some {W : World} {b o : Nat} {v : Value} (h : W.cell? ⟨b, o, none⟩ = some v) (h1 : v.oneCell' = true) (h2 : PTC = true → isSl v = false) : C0 W b o = some v := by
  have : PTC = true → isSl v = true → Plain W b := fun g1 g2 => by rw [h2 g1] at g2; cases g2
  unfold C0; simp only [h]
  rw [if_pos ⟨h1, this⟩]
theorem com_C0 (W : World) (hW : THC = true → W.heap.size ≤ thr := by intro h; exact absurd h (by decide)) : Com (C0 W) W := by
  have key : ∀ b o v, W.cell? ⟨b, o, none⟩ = some v → (PTC = true → isSl v = true → Plain W b) → need b v = true → Plain W b := fun b o v hc h hn => by
    unfold need at hn
    rcases Bool.or_eq_true _ _ ▸ hn with hn | hn
    · obtain ⟨g1, g2⟩ := Bool.and_eq_true _ _ ▸ hn; exact h g1 g2
    · obtain ⟨g1, g2⟩ := Bool.and_eq_true _ _ ▸ hn
      obtain ⟨g3, g4⟩ := Bool.and_eq_true _ _ ▸ g1
      have h1 := hW g3; have h2 := Nat.le_of_ble_eq_true g2; have h3 := World.block_lt_of_cell? W _ hc
      simp only at h3; omega
  refine ⟨fun b o v h => ?_, fun b o v h => ?_⟩ <;> unfold C0 at h <;> split at h
  · rename_i u hu; split at h; rename_i h1; cases h; exact ⟨hu, fun _ => key _ _ _ hu h1.2⟩; cases h
  · cases h
  · rename_i u hu; split at h; rename_i h1; cases h; exact h1.1; cases h
  · cases h
def noSl : AV → Bool | .sl _ _ => false | .hi _ _ => false | .v x => !isSl x | _ => true
theorem noSl_rel {C : CS} {c : AV} {u : Value} (r : Rel C c u) (h : noSl c = true) : isSl u = false := by
  cases r <;> simp_all [noSl, isSl]
def RD (P : Program) (t : TypeId) {α : Type} (E : α → List AV) (G : α → Prop) : Prop :=
  ∀ {H : Type} (enc : TypeId × Value → H) (W : World) (fuel : Nat) (cs : List Value) (x : DataW H × List MemPlace), DataW.trod enc P W 0 (fun _ => true) true fuel t cs = some x →
    ∃ a, G a ∧ Rels (C0 W) (E a) cs ∧ (E a).all AV.one = true
theorem RD.map {t : TypeId} {α β : Type} {E : α → List AV} {G : α → Prop} {E' : β → List AV} {G' : β → Prop} (h : RD P t E G) (f : α → β) (hf : ∀ a, G a → G' (f a) ∧ E' (f a) = E a) : RD P t E' G' := by
  intro H enc W fuel cs x hx
  obtain ⟨a, h1, h2, h3⟩ := h enc W fuel cs x hx
  obtain ⟨g1, g2⟩ := hf a h1
  exact ⟨f a, g1, by rw [g2]; exact h2, by rw [g2]; exact h3⟩
theorem rd_int {t : TypeId} {k : IntKind} (ht : P.underlying t = some (.int k)) : RD P t (fun n : Int => [.v (.int k n)]) (fun n => k.min ≤ n ∧ n ≤ k.max) := by
  intro H enc W fuel cs x hx
  obtain ⟨n, rfl, _, hw⟩ := DataW.trod_int ht hx
  exact ⟨n, by simpa [Lit.wf] using hw, Rels.cons (Rel.v _) Rels.nil, rfl⟩
theorem rd_u8 {t : TypeId} (ht : P.underlying t = some (.int .u8)) : RD P t (fun x : UInt8 => [.v (.int .u8 x.toNat)]) (fun _ => True) := by
  refine RD.map (rd_int ht) (fun n => UInt8.ofNat n.toNat) (fun n hn => ⟨trivial, ?_⟩)
  simp [IntKind.min, IntKind.max, IntKind.bits, IntKind.signed] at hn
  have : ((UInt8.ofNat n.toNat).toNat : Int) = n := by simp [UInt8.toNat_ofNat']; omega
  rw [this]
theorem cells_get {W : World} {a : Addr} {n : Nat} {cs : List Value} (h : W.cells? 0 a n = some cs) : cs.length = n ∧ ∀ j v, cs[j]? = some v → W.cell? (a.add j) = some v := by
  simp only [World.cells?, Nat.zero_le, if_true] at h
  have key : ∀ (l : List Nat) (cs : List Value), l.mapM (fun i => W.cell? (a.add i)) = some cs → cs.length = l.length ∧ ∀ (j : Nat) (v : Value), cs[j]? = some v → ∃ i : Nat, l[j]? = some i ∧ W.cell? (a.add i) = some v := by
    intro l
    induction l with
    | nil => intro cs h; simp at h; subst h; simp
    | cons i l ih =>
      intro cs h
      simp only [List.mapM_cons, Option.bind_eq_bind, Option.pure_def] at h
      cases h1 : W.cell? (a.add i) with
      | none => simp [h1] at h
      | some v =>
        cases h2 : l.mapM (fun i => W.cell? (a.add i)) with
        | none => simp [h1, h2] at h
        | some vs =>
          simp [h1, h2] at h
          subst h
          obtain ⟨g1, g2⟩ := ih vs h2
          refine ⟨by simp [g1], fun j u hj => ?_⟩
          cases j with
          | zero => simp at hj; subst hj; exact ⟨i, rfl, h1⟩
          | succ j => obtain ⟨i', k1, k2⟩ := g2 j u (by simpa using hj); exact ⟨i', by simpa using k1, k2⟩
  obtain ⟨h1, h2⟩ := key _ cs h
  refine ⟨by simpa using h1, fun j v hj => ?_⟩
  obtain ⟨i, k1, k2⟩ := h2 j v hj
  have : i = j := by
    have := (List.getElem?_eq_some_iff.1 k1).2; simpa using this.symm
  subst this; exact k2
theorem add_add (a : Addr) (i j : Nat) (hs : a.spot = none) : (a.add i).add j = ⟨a.block, a.off + i + j, none⟩ := by
  obtain ⟨b, o, s⟩ := a
  simp only at hs; subst hs
  rw [addr_add, addr_add]
theorem spot_none {W : World} {a : Addr} {i : Nat} {v : Value} (h : W.cell? (a.add i) = some v) : i = 0 → a.spot = none := by
  intro hi; subst hi
  simp only [Addr.add, if_true] at h
  unfold World.cell? at h
  split at h
  · split at h
    · cases h
    · rename_i hs; simpa using hs
  · cases h
theorem rd_slice {t e : TypeId} {α : Type} {E : α → List AV} {G : α → Prop} {sz : Nat} (ht : sliceT P t = some e) (hsz : szT P e = some (sz + 1)) (h : RD P e E G) (hE : ∀ a, (E a).length = sz + 1)
    (hns : PTC = true → ∀ a, (E a).all noSl = true := by first | (intro h; exact absurd h (by decide)) | (intro _ a; rfl) | (intro _ a; simp [noSl, isSl])) :
    RD P t (fun l : List α => [.sl (sz + 1) (l.map E)]) (fun l => ∀ x ∈ l, G x) := by
  intro H enc W fuel cs x hx
  have hc : P.cellsOf e = sz + 1 := by unfold szT at hsz; simp [Program.cellsOf, hsz]
  rcases DataW.trod_slice (sliceT_un ht) hx with ⟨rfl, _⟩ | ⟨a, len, cap, elems, rest, n, _, rfl, _, _, hlc, _, hel, hget, _⟩
  · exact ⟨[], by simp, Rels.cons (rel_sl_mk 0 0 rfl (Nat.le_refl _) (fun e => absurd rfl e) ⟨fun _ h => by simp at h, fun i cs j c h => by simp at h⟩) Rels.nil, rfl⟩
  · have hone : ∀ i, i < len → ∃ (y : α) (cs : List Value), G y ∧ Rels (C0 W) (E y) cs ∧ (E y).all AV.one = true ∧ W.cells? 0 (a.add (i * (sz + 1))) (sz + 1) = some cs := by
      intro i hi
      have hg := hget i hi
      rw [hc, List.getElem?_eq_getElem (by omega : i < elems.length)] at hg
      cases hcs : W.cells? 0 (a.add (i * (sz + 1))) (sz + 1) with
      | none => simp [hcs] at hg
      | some cs =>
        simp only [hcs, Option.bind_some] at hg
        obtain ⟨y, g1, g2, g3⟩ := h enc W n cs _ hg
        exact ⟨y, cs, g1, g2, g3, rfl⟩
    let f : Fin len → α := fun i => Classical.choose (hone i i.2)
    have hf : ∀ i : Fin len, ∃ cs : List Value, G (f i) ∧ Rels (C0 W) (E (f i)) cs ∧ (E (f i)).all AV.one = true ∧ W.cells? 0 (a.add (i * (sz + 1))) (sz + 1) = some cs := fun i => Classical.choose_spec (hone i i.2)
    have hl : (List.ofFn f).length = len := by simp
    refine ⟨List.ofFn f, fun y hy => ?_, Rels.cons ?_ Rels.nil, rfl⟩
    · obtain ⟨i, rfl⟩ := List.mem_ofFn.1 hy
      obtain ⟨cs, g1, _⟩ := hf i; exact g1
    · have hspot : len ≠ 0 → a.spot = none := by
        intro h0
        obtain ⟨cs, g1, g2, g3, g4⟩ := hf ⟨0, by omega⟩
        obtain ⟨k1, k2⟩ := cells_get g4
        obtain ⟨v, hv⟩ : ∃ v, cs[0]? = some v := ⟨_, List.getElem?_eq_getElem (by omega)⟩
        have := k2 0 v hv
        simp only [Nat.zero_mul] at this
        have h00 : (a.add 0) = a := by simp [Addr.add]
        rw [h00] at this
        exact spot_none this rfl
      refine rel_sl_mk a.block a.off (by simp) hlc (fun hne => ?_) ⟨fun cs hcs => ?_, fun i cs j c h1 h2 => ?_⟩
      · have h0 : len ≠ 0 := by intro h0; apply hne; rw [List.map_eq_nil_iff]; exact List.eq_nil_of_length_eq_zero (by omega)
        have := hspot h0
        obtain ⟨b, o, s⟩ := a; simp only at this; subst this; rfl
      · obtain ⟨y, _, rfl⟩ := List.mem_map.1 hcs; exact hE y
      · rw [List.getElem?_map] at h1
        have hi : i < len := by
          rcases Nat.lt_or_ge i len with h' | h'
          · exact h'
          · rw [List.getElem?_eq_none (by omega)] at h1; simp at h1
        rw [List.getElem?_eq_getElem (by omega : i < (List.ofFn f).length)] at h1
        simp at h1
        obtain ⟨cs', g1, g2, g3, g4⟩ := hf ⟨i, hi⟩
        subst h1
        obtain ⟨k1, k2⟩ := cells_get g4
        obtain ⟨u, hu, hr⟩ := g2.get h2
        have hcell := k2 j u hu
        rw [add_add a _ _ (hspot (by omega))] at hcell
        refine ⟨u, C0_some hcell (hr.one ?_) (fun hp => noSl_rel hr (List.all_eq_true.1 (hns hp _) c (List.mem_of_getElem? h2))), hr⟩
        exact List.all_eq_true.1 g3 c (List.mem_of_getElem? h2)
theorem RD.arg {t : TypeId} {α : Type} {E : α → List AV} {G : α → Prop} (h : RD P t E G) {H : Type} {enc : TypeId × Value → H} {W : World} {v : Value} {d : DataW H} {p : List MemPlace} (hv : DataW.Trod enc P W 0 (fun _ => true) true t v d p) (hna : v.cells = #[v]) {av : α → AV} (hE : ∀ a, E a = [av a]) :
    ∃ a, G a ∧ Rel (C0 W) (av a) v := by
  obtain ⟨fuel, hf⟩ := hv
  obtain ⟨a, h1, h2, h3⟩ := h enc W fuel _ _ hf
  rw [hE, hna] at h2
  exact ⟨a, h1, h2.2 0 _ _ rfl rfl⟩
end Go.Proofs.YtcbhhjahjnlfhaaDoor.A
namespace Go.Proofs.YtcbhhjahjnlfhaaDoor.A
open Go Go.RowKit
set_option linter.unusedVariables false
set_option linter.unusedSimpArgs false
set_option linter.unusedSectionVars false
variable {P : Program} {w0 : Base} {C0 C : CS} {T : TS} {S S' : AState} {a : Act} {w : World} {ops : Array Oper} {rest : List Oper} {o : Oper} {Q : Exit → AState → Prop}
variable {t : Nat} {ty : TypeId} {pos : String} {aft : Array Edge}
theorem AW.keep {f : FuncId} {args : List AV} {objs : List OE} {R : AV → List OE → Prop} (h : AC P f args objs R) : AW P f args [] objs (fun r n => ∃ n', R r n' ∧ n = n' ++ objs) :=
  fun C w vals h1 h2 h3 => by
    have h3' : Objs C objs w := h3
    refine (h C w vals h1 h2 h3').mono fun e w' ⟨v, C', r, n, g1, g2, g3, g4, g5, g6, g7, g8⟩ => ⟨v, C', r, n ++ objs, g1, ⟨n, g2, rfl⟩, BelowX.of g3, fun b o hb _ => g4 b o hb, g5, g6, ⟨fun e he => ?_, ?_⟩, fun e he => ?_⟩
    · rcases List.mem_append.1 he with he | he
      · exact g7.1 e he
      · obtain ⟨k1, k2⟩ := h3'.1 e he
        have hlt := k1.nodef.1
        refine ⟨k1.mono (fun b o v hc => ?_) (g3.block _ hlt), fun o => by rw [g4 _ _ hlt]; exact k2 o⟩
        have hb : b < w.heap.size := by have := World.block_lt_of_cell? w _ (h1.1 _ _ _ hc).cell; simpa using this
        rw [g4 _ _ hb]; exact hc
    · exact List.pairwise_append.2 ⟨g7.2, h3'.2, fun e he e' he' hb => by have := g8 e he; have := (h3'.1 e' he').1.nodef.1; omega⟩
    · rcases List.mem_append.1 he with he | he
      · exact .inl (g8 e he)
      · exact .inr ⟨e, he, rfl⟩
end Go.Proofs.YtcbhhjahjnlfhaaDoor.A
namespace Go.Proofs.YtcbhhjahjnlfhaaDoor.A
open Go Go.RowKit
set_option linter.unusedVariables false
set_option linter.unusedSimpArgs false
set_option linter.unusedSectionVars false
variable {P : Program} {w0 : Base} {C0 C : CS} {T : TS} {S S' : AState} {a : Act} {w : World} {ops : Array Oper} {rest : List Oper} {o : Oper} {Q : Exit → AState → Prop}
theorem imp_commitBx (i j : Nat) {bx g n cap sz e : Nat} {l : List (List AV)} (hn : n = l.length) (hi : S.objs[i]? = some ⟨g, true, .buf sz l cap e⟩) (hj : (S.objs.eraseIdx i)[j]? = some ⟨bx, true, .box [.v (.slice (some ⟨g, 0, none⟩) n cap)]⟩) :
    Imp w0 C0 S ⟨S.nt, S.slots, (S.objs.eraseIdx i).set j ⟨bx, true, .box [.sl sz l]⟩⟩ := by
  rintro a w ⟨C, T, hs⟩
  subst hn
  have hm := mem_of_get hi
  obtain ⟨hob, hnone', hbase⟩ := hs.objs _ hm
  obtain ⟨arr, a1, a2, a3, a4, vs, a5, a6, a7⟩ := hob
  have hnone : ∀ o, C g o = none := hnone'
  have hbase' : w0.ok g := hbase rfl
  have hvl : vs.length = l.length * sz := by rw [a5.1, flat_len a4]
  have hmono := CS.add_mono (C := C) (b := g) (o := 0) (vs := vs) (fun j _ => hnone _)
  have hsub := List.eraseIdx_sublist (l := S.objs) (k := i)
  have hp := set_take (y := (⟨g, true, .buf sz l cap e⟩ : OE)) hi
  have hp' : ((⟨g, true, .buf sz l cap e⟩ : OE) :: S.objs.eraseIdx i).Perm S.objs := by
    have : S.objs.set i ⟨g, true, .buf sz l cap e⟩ = S.objs := by
      apply List.ext_getElem?
      intro j
      rw [List.getElem?_set]
      by_cases hij : i = j
      · subst hij; rw [if_pos rfl]; split
        · exact hi.symm
        · rename_i h; rw [List.getElem?_eq_none (by omega)]
      · simp [hij]
    rw [this] at hp; exact hp
  have hne : ∀ e', e' ∈ S.objs.eraseIdx i → e'.b ≠ g := fun e' he h => by
    have := (hp'.pairwise_iff (R := fun e e' : OE => e.b ≠ e'.b) (fun h => fun e => h e.symm)).2 hs.apart
    exact (List.pairwise_cons.1 this).1 e' he h.symm
  have hstep : SimC w0 C0 (C.add g 0 vs) T ⟨S.nt, S.slots, S.objs.eraseIdx i⟩ a w := by
    refine hs.step (BelowX.refl _) (fun _ => Nat.le_refl _) (fun _ _ h => h) ?_ ?_ (fun b' o' hb' hn => CS.add_other (fun e => by subst e; rcases hbase' with h | h; omega; exact hn h)) ?_ (hs.apart.sublist hsub) ?_ hs.tokne (fun t x hx => ⟨x, hx, fun u r => SRel.mono hmono r⟩)
    · intro b' o' v hc
      rcases CS.add_cases hc with ⟨rfl, j, rfl, hj⟩ | hc'
      · refine ⟨?_, fun _ _ => ⟨arr, e, a1⟩⟩
        rw [cell_of_row w b' _ arr e (0, 0) a1, Nat.zero_add]
        have hlt := (List.getElem?_eq_some_iff.1 hj).1
        rw [← a7, List.getElem?_take, if_pos (by omega)] at hj
        simpa using hj
      · exact hs.com _ _ _ hc'
    · intro b' o' v hc
      rcases CS.add_cases hc with ⟨rfl, j, rfl, hj⟩ | hc'
      · exact a6 v (List.mem_of_getElem? hj)
      · exact hs.one _ _ _ hc'
    · intro e' he
      obtain ⟨k1, k2, k3⟩ := hs.objs e' (hsub.mem he)
      exact ⟨k1.mono hmono rfl, fun o => by rw [CS.add_other (hne e' he)]; exact k2 o, k3⟩
    · intro k j hk
      obtain ⟨k1, k2⟩ := hs.toks k j hk
      have hkb : j.b ≠ g := fun e => k2 _ hm e.symm
      exact ⟨k1.keep rfl (fun o => CS.add_other hkb), fun e he => k2 e (hsub.mem he)⟩
  have hx : Rel (C.add g 0 vs) (.sl sz l) (.slice (some ⟨g, 0, none⟩) l.length cap) :=
    rel_sl_mk g 0 rfl a3 (fun _ => rfl) (row_mk a4 (a5.mono hmono) (fun j v hj => CS.add_at hj))
  have hob := (hstep.objs _ (mem_of_get hj)).1
  obtain ⟨barr, bt, b1, b2⟩ := hob
  have hcells : barr.toList = [.slice (some ⟨g, 0, none⟩) l.length cap] := by
    obtain ⟨u, us, hu, hu1, hu2⟩ := b2.cons_inv
    have := hu2.nil_inv; subst this
    cases hu1
    exact hu
  exact ⟨_, T, hstep.setObj hj (w' := w) (Nat.le_refl _) rfl rfl rfl rfl (fun _ _ => rfl) ⟨barr, bt, b1, by rw [hcells]; exact Rels.cons hx Rels.nil⟩⟩
end Go.Proofs.YtcbhhjahjnlfhaaDoor.A
namespace Go.Proofs.YtcbhhjahjnlfhaaDoor.A
open Go Go.RowKit
set_option linter.unusedVariables false
set_option linter.unusedSimpArgs false
set_option linter.unusedSectionVars false
variable {P : Program} {w0 : Base} {C0 C : CS} {T : TS} {S S' : AState} {a : Act} {w : World} {ops : Array Oper} {rest : List Oper} {o : Oper} {Q : Exit → AState → Prop}
variable {t : Nat} {ty ty' : TypeId} {pos : String} {aft : Array Edge}
inductive SepAV (p : Value → Bool) : AV → Prop where
  | v (x : Value) : SepAV p (.v x)
  | sl (sz : Nat) (l : List (List AV)) (h : ∀ cs ∈ l, ∀ c ∈ cs, ∃ v, c = .v v ∧ p v = true) : SepAV p (.sl sz l)
theorem SepAV.rel {p : Value → Bool} {x : AV} (h : SepAV p x) {b : Nat} (hb : ∀ o v, C b o = some v → p v = false) {u : Value} (r : Rel C x u) : Rel (fun b' o => if b' = b then none else C b' o) x u := by
  cases h with
  | v x => cases r; exact .v _
  | sl sz l h =>
    obtain ⟨A, cap, b', o', rfl, q1, q2, q3⟩ := rel_sl_inv r
    refine rel_sl_mk b' o' rfl q1 q2 ⟨q3.1, fun i cs j c h1 h2 => ?_⟩
    obtain ⟨u1, hu1, hu2⟩ := q3.2 i cs j c h1 h2
    obtain ⟨v, rfl, hv⟩ := h cs (List.mem_of_getElem? h1) c (List.mem_of_getElem? h2)
    cases hu2
    have hne : b' ≠ b := fun e => by subst e; rw [hb _ _ hu1] at hv; cases hv
    exact ⟨_, by simp only [hne, if_false]; exact hu1, .v _⟩
theorem r_loadAbe (i : Nat) (cs' : List AV) {x : Operand} {b o n : Nat} {rw' : Bool} {cs : List AV} (he : (cs.drop o).take n = cs') (hx : S.ev x = some (.a (.v (.pointer (some ⟨b, o, none⟩))))) (hi : S.objs[i]? = some ⟨b, rw', .box cs⟩)
    (hA : aggT P ty' = some true) (hn : szT P ty' = some n) (hl : Nat.ble (o + n) cs.length = true) (ht : Nat.blt t S.nt = true)
    (hr : AWL P w0 C0 ops rest Q (S.put t (.a (.agg cs')))) : AWL P w0 C0 ops (⟨some t, .load ty' x, ty, pos, aft, none⟩ :: rest) Q S := by
  subst he; exact r_loadAb i hx hi hA hn hl ht hr
theorem flat_drop {α : Type} {f : α → List AV} {n : Nat} (hf : ∀ x, (f x).length = n) : ∀ {l : List α} {k : Nat} {x : α} {ext : List AV}, l[k]? = some x → ((((l.map f).flatten ++ ext).drop (0 + k * n)).take n = f x) ∧ 0 + k * n + n ≤ ((l.map f).flatten ++ ext).length
  | [], k, x, ext, h => by simp at h
  | y :: l, 0, x, ext, h => by
    simp at h; subst h
    constructor
    · simp only [List.map_cons, List.flatten_cons, Nat.zero_mul, Nat.add_zero, List.drop_zero]
      rw [List.append_assoc, List.take_append_of_le_length (by rw [hf]; exact Nat.le_refl _), List.take_of_length_le (by rw [hf]; exact Nat.le_refl _)]
    · simp [hf] <;> omega
  | y :: l, k + 1, x, ext, h => by
    obtain ⟨h1, h2⟩ := flat_drop hf (l := l) (k := k) (ext := ext) (by simpa using h)
    have e : 0 + (k + 1) * n = n + (0 + k * n) := by rw [Nat.succ_mul]; omega
    constructor
    · rw [e]
      simp only [List.map_cons, List.flatten_cons]
      rw [List.append_assoc, ← List.drop_drop]
      rw [List.drop_left' (hf y)]
      exact h1
    · rw [e]
      simp only [List.map_cons, List.flatten_cons, List.append_assoc, List.length_append, hf] at h2 ⊢
      omega
end Go.Proofs.YtcbhhjahjnlfhaaDoor.A
namespace Go.Proofs.YtcbhhjahjnlfhaaDoor.A
open Go Go.RowKit
set_option linter.unusedVariables false
set_option linter.unusedSimpArgs false
set_option linter.unusedSectionVars false
variable {P : Program} {w0 : Base} {C0 C : CS} {T : TS} {S S' : AState} {a : Act} {w : World} {ops : Array Oper} {rest : List Oper} {o : Oper} {Q : Exit → AState → Prop}
variable {t : Nat} {ty ty' : TypeId} {pos : String} {aft : Array Edge}
inductive PN : AV → Bool → Prop where
  | nil : PN (.v (.pointer none)) true
  | v (A : Addr) : PN (.v (.pointer (some A))) false
  | pt (b : Nat) (cs : List AV) : PN (.pt b cs) false
  | cp (cs : List AV) : PN (.cp cs) false
theorem PN.rel {x : AV} {n : Bool} (h : PN x n) {u : Value} (r : Rel C x u) : ∃ A : Option Addr, u = .pointer A ∧ A.isNone = n := by
  cases h with
  | nil => cases r; exact ⟨_, rfl, rfl⟩
  | v A => cases r; exact ⟨_, rfl, rfl⟩
  | pt b cs => obtain ⟨rfl, _⟩ := rel_pt_inv r; exact ⟨_, rfl, rfl⟩
  | cp cs => obtain ⟨b, o, rfl, _⟩ := rel_cp_inv r; exact ⟨_, rfl, rfl⟩
theorem r_nilCheck {x : Operand} {c : AV} (hx : S.ev x = some (.a c)) (hn : PN c false) (ht : Nat.blt t S.nt = true)
    (hr : AWL P w0 C0 ops rest Q (S.put t (.a c))) : AWL P w0 C0 ops (⟨some t, .nilCheck x, ty, pos, aft, none⟩ :: rest) Q S :=
  awl_pure ht (fun C T a w hs => by
    have h := hs.ev hx
    obtain ⟨A, hv, hA⟩ := hn.rel h
    rw [hv] at h
    cases A with
    | none => cases hA
    | some A => exact ⟨.pointer (some A), by simp [execOp, hv], h⟩) hr
theorem r_fieldpt {x : Operand} {s f off ft n b : Nat} {cs : List AV} (hx : S.ev x = some (.a (.pt b cs))) (hf : fieldT P s f = some (off, ft)) (hn : szT P ft = some (n + 1)) (ht : Nat.blt t S.nt = true)
    (hr : AWL P w0 C0 ops rest Q (S.put t (.a (.cp (cs.drop off))))) : AWL P w0 C0 ops (⟨some t, .fieldAddr s x f, ty, pos, aft, none⟩ :: rest) Q S :=
  awl_pure ht (fun C T a w hs => by
    have h := hs.ev hx
    generalize hv : a.eval x = u at h
    obtain ⟨rfl, hc⟩ := rel_pt_inv h
    refine ⟨.pointer (some ⟨b, 0 + off, none⟩), by simp [execOp, hv, run_fieldAt hf hn], rel_cp_mk (fun j c hj => ?_)⟩
    rw [List.getElem?_drop] at hj
    have := hc _ _ hj
    rwa [Nat.zero_add]) hr
structure PtrMap (P : Program) (mt kt et e n : Nat) : Prop where
  mt : mapT P mt = some (kt, et)
  kt : P.underlying kt = some (.pointer e)
  sz : szT P e = some (n + 1)
  z : ZeroAV P et (.v (.bool false))
def PtAV (x : AV) (b : Nat) : Prop := ∃ sz l cs, x = .pt b (.sl sz l :: cs)
theorem PtAV.ok {x : AV} {b : Nat} (h : PtAV x b) {u : Value} (r : Rel C x u) : u = ptr b ∧ PtrOk C b := by
  obtain ⟨sz, l, cs, rfl⟩ := h
  obtain ⟨rfl, h⟩ := rel_pt_inv r
  obtain ⟨u, h1, h2⟩ := h 0 _ rfl
  obtain ⟨A, cap, b', o, rfl, _⟩ := rel_sl_inv h2
  exact ⟨rfl, _, _, _, h1⟩
end Go.Proofs.YtcbhhjahjnlfhaaDoor.A
namespace Go.Proofs.YtcbhhjahjnlfhaaDoor.A
open Go Go.RowKit
set_option linter.unusedVariables false
set_option linter.unusedSimpArgs false
set_option linter.unusedSectionVars false
variable {P : Program} {w0 : Base} {C0 C : CS} {T : TS} {S S' : AState} {a : Act} {w : World} {ops : Array Oper} {rest : List Oper} {o : Oper} {Q : Exit → AState → Prop}
variable {t : Nat} {ty ty' : TypeId} {pos : String} {aft : Array Edge} {rn : Option Nat}
def YCs (Cs : CS) (P : Program) (l : Nat) (x : List AV) (wo : List OE) (R : Bool → List OE → Prop) : Prop :=
  ∀ (C : CS) (w : World) (vals : Array Value), (∀ b o v, Cs b o = some v → C b o = some v) → Com C w → Rels C x vals.toList → Objs C wo w →
    YieldAt Fence.wide 0 P l vals w (fun e w' => ∃ bb, e = .returned (.bool bb) ∧ ∃ C' nobjs, R bb nobjs ∧ BelowX w.heap.size (WB wo) w w' ∧ (∀ b o, b < w.heap.size → ¬ WB wo b → C' b o = C b o) ∧ Com C' w' ∧ Objs C' nobjs w' ∧ ∀ e ∈ nobjs, w.heap.size ≤ e.b ∨ WB wo e.b)
theorem YCs.tr {Cs : CS} {l : Nat} {x : List AV} {wo : List OE} {R : Bool → List OE → Prop} (h : YCs Cs P l x wo R) : YCs Cs P l x (Tr wo) R := by
  have e : WB (Tr wo) = WB wo := funext fun b => propext wb_tr
  intro C w vals h0 h1 h2 h3
  rw [e]
  exact h C w vals h0 h1 h2 h3.untr
inductive Stop : Exit → Code → Prop
  | ret : Stop .ret .ret
  | exit (id : Nat) : Stop (.exit id) (.exit id)
end Go.Proofs.YtcbhhjahjnlfhaaDoor.A
namespace Go.Proofs.YtcbhhjahjnlfhaaDoor.A
open Go Go.RowKit
set_option linter.unusedVariables false
set_option linter.unusedSimpArgs false
set_option linter.unusedSectionVars false
variable {P : Program} {w0 : Base} {C0 C : CS} {T : TS} {S S' : AState} {a : Act} {w : World} {ops : Array Oper} {rest : List Oper} {o : Oper} {Q : Exit → AState → Prop}
structure Box1 (P : Program) (p ty : Nat) (S : AState) (r : AV) : Prop where
  ex : ∃ (b i : Nat) (rw' : Bool), S.get p = some (.a (.v (.pointer (some ⟨b, 0, none⟩)))) ∧ S.objs[i]? = some ⟨b, rw', .box [r]⟩ ∧ aggT P ty = some false
theorem Box1.run {p ty : Nat} {r : AV} (hs : SimC w0 C0 C T S a w) (h : Box1 P p ty S r) : ∃ ad v, (asAddr (a.tmps.getD p undef)).run P w = .ok ad w ∧ (loadVar ty ad).run P w = .ok v w ∧ Rel C r v := by
  obtain ⟨b, i, rw', hp, hi, hA⟩ := h.ex
  have hv := hs.slots _ _ hp
  have hv' : a.tmps.getD p undef = .pointer (some ⟨b, 0, none⟩) := by generalize a.tmps.getD p undef = u at hv; cases hv; rfl
  obtain ⟨arr0, g1, g2⟩ := box_cells (hs.objs _ (mem_of_get hi)).1
  obtain ⟨u, hu, hr⟩ := g1.get (j := 0) rfl
  have hc := g2 0 u hu
  exact ⟨⟨b, 0, none⟩, u, by rw [hv']; simp [asAddr], run_loadVar1 hA hc, hr⟩
inductive ResK (P : Program) (S : AState) : ResultVar → AV → Prop
  | tmp {t : Nat} {c : AV} (h : Res S t c) : ResK P S (.tmp t) c
  | box {p ty : Nat} {c : AV} (h : BoxR P p ty S c) : ResK P S (.cell p ty) c
  | one {p ty b : Nat} {c : AV} {rw' : Bool} (i : Nat) (hp : S.get p = some (.a (.v (.pointer (some ⟨b, 0, none⟩))))) (hi : S.objs[i]? = some ⟨b, rw', .box [c]⟩) (hA : aggT P ty = some false) : ResK P S (.cell p ty) c
def resOne (tmps : Array Value) : ResultVar → Sem Value
  | .tmp t => pure (tmps.getD t undef)
  | .cell a t => do loadVar t (← asAddr (tmps.getD a undef))
theorem ResK.run {rv : ResultVar} {c : AV} (hs : SimC w0 C0 C T S a w) (h : ResK P S rv c) : ∃ v, (resOne a.tmps rv).run P w = .ok v w ∧ Rel C c v := by
  cases h with
  | tmp h => exact ⟨_, rfl, h.rel hs⟩
  | box h => obtain ⟨ad, v, h1, h2, h3⟩ := h.run hs; exact ⟨v, by simp only [resOne, Sem.run_bind, h1, Result.andThen_ok]; exact h2, h3⟩
  | one i hp hi hA => obtain ⟨ad, v, h1, h2, h3⟩ := (Box1.mk ⟨_, i, _, hp, hi, hA⟩ : Box1 P _ _ S c).run hs; exact ⟨v, by simp only [resOne, Sem.run_bind, h1, Result.andThen_ok]; exact h2, h3⟩
theorem resK1_run {fn : Func} {rv : ResultVar} (hr : fn.results = #[rv]) : ∀ (w0 : Base) (C0 C : CS) (T : TS) (S : AState) (a : Act) (w : World) (r : AV), SimC w0 C0 C T S a w → ResK P S rv r → ∃ v, (results fn a.tmps).run P w = .ok v w ∧ Rel C r v := by
  intro w0 C0 C T S a w r hs h
  obtain ⟨v, h1, h2⟩ := h.run hs
  refine ⟨v, ?_, h2⟩
  cases rv <;> simp only [resOne] at h1 <;> simp [results, hr, h1] <;> simpa using h1
def Res2K (P : Program) (rv rv' : ResultVar) (S : AState) (r : AV) : Prop := ∃ c c', ResK P S rv c ∧ ResK P S rv' c' ∧ r = .tup [c, c']
theorem resK2_run {fn : Func} {rv rv' : ResultVar} (hr : fn.results = #[rv, rv']) : ∀ (w0 : Base) (C0 C : CS) (T : TS) (S : AState) (a : Act) (w : World) (r : AV), SimC w0 C0 C T S a w → Res2K P rv rv' S r → ∃ v, (results fn a.tmps).run P w = .ok v w ∧ Rel C r v := by
  rintro w0 C0 C T S a w r hs ⟨c, c', h, h', rfl⟩
  obtain ⟨v, h1, h2⟩ := h.run hs
  obtain ⟨v', h1', h2'⟩ := h'.run hs
  refine ⟨.tuple #[v, v'], ?_, rel_tup.2 (Rels.cons h2 (Rels.cons h2' Rels.nil))⟩
  have e : results fn a.tmps = (do let vs ← fn.results.mapM (resOne a.tmps); pure (if h : vs.size = 1 then vs[0] else .tuple vs)) := by
    unfold results
    congr 1
  rw [e, hr]
  simp [Sem.run_bind, h1, h1']
end Go.Proofs.YtcbhhjahjnlfhaaDoor.A
namespace Go.Proofs.YtcbhhjahjnlfhaaDoor.A
open Go Go.RowKit
set_option linter.unusedVariables false
set_option linter.unusedSimpArgs false
set_option linter.unusedSectionVars false
variable {P : Program} {w0 : Base} {C0 C : CS} {T : TS} {S S' : AState} {a : Act} {w : World} {ops : Array Oper} {rest : List Oper} {o : Oper} {Q : Exit → AState → Prop}
variable {t : Nat} {ty ty' : TypeId} {pos : String} {aft : Array Edge}
theorem run_copyV {st e sz : Nat} (hst : sliceT P st = some e) (hsz : szT P e = some sz) {g off m c : Nat} {arr : Array Value} {t0 : TypeId} (hg : w.heap[g]? = some (.cells arr t0 (0, 0))) {A : Addr} {sA : Option Addr} {sn sc : Nat} {vs : List Value}
    (hA : 0 < min sn m → A = ⟨g, off, none⟩) (hl : vs.length = min sn m * sz) (hs : ∀ j v, vs[j]? = some v → ∃ b o, sA = some ⟨b, o, none⟩ ∧ w.cell? ⟨b, o + j, none⟩ = some v) (h1 : ∀ v ∈ vs, v.oneCell' = true) (hfit : off + min sn m * sz ≤ arr.size) (hz : 0 < sz) :
    (Builtin.copy_ #[st, st] ty #[.slice (some A) m c, .slice sA sn sc]).run P w = .ok (.int .i64 (min sn m : Nat)) (if 0 < min sn m then w.setRow g (arr.toList.take off ++ vs ++ arr.toList.drop (off + vs.length)).toArray else w) := by
  have hlen : (Builtin.lenOf (.slice sA sn sc)).run P w = .ok sn w := by simp [Builtin.lenOf]
  by_cases hm : min sn m = 0
  · have hv : vs = [] := List.eq_nil_of_length_eq_zero (by rw [hl, hm]; simp)
    have hm' : Nat.min sn m = 0 := hm
    have hf : (Builtin.firstCells sz 0 (.slice sA sn sc)).run P w = .ok #[] w := by
      cases sA <;> simp [Builtin.firstCells, loadCells, loadCellsFrom]
    rw [if_neg (by omega)]
    simp [Builtin.copy_, run_underlying (sliceT_un hst), Sem.run_bind, Result.andThen, run_sz hsz, hlen, hm', hf, storeCells, goInt, hm]
  · obtain rfl := hA (by omega)
    have hpos : 0 < vs.length := by rw [hl]; exact Nat.mul_pos (by omega) hz
    obtain ⟨b, o, rfl, _⟩ := hs 0 vs[0] (List.getElem?_eq_getElem hpos)
    have hf : (Builtin.firstCells sz (Nat.min sn m) (.slice (some ⟨b, o, none⟩) sn sc)).run P w = .ok vs.toArray w := by
      have := run_load_cells (P := P) (w := w) (b := b) (o := o) (n := Nat.min sn m * sz) (cs := vs) hl (fun j v hj => by obtain ⟨b', o', h1, h2⟩ := hs j v hj; cases h1; exact h2)
      simpa [Builtin.firstCells] using this
    have hst' := run_storeCells_at P g off t0 vs 0 arr w hg (by rw [hl]; simpa using hfit) h1
    rw [if_pos (by omega)]
    simp only [Nat.add_zero] at hst'
    simp [Builtin.copy_, run_underlying (sliceT_un hst), Sem.run_bind, Result.andThen, run_sz hsz, hlen, hf, hst', goInt]
def SrcOk (w0 : Base) (C0 : CS) (S : AState) (y : Operand) (k sn : Nat) (xs : List AV) : Prop := ∀ C T a w, SimC w0 C0 C T S a w → ∃ sA sc vs, a.eval y = .slice sA sn sc ∧ Rels C xs vs ∧ (∀ v ∈ vs, v.oneCell' = true) ∧ ∀ (j : Nat) (v : Value), vs[j]? = some v → ∃ b o, sA = some ⟨b, o, none⟩ ∧ w.cell? ⟨b, o + j, none⟩ = some v
theorem r_copyV (i : Nat) {x y : Operand} {A : Addr} {m c sn g off sz : Nat} {cs xs : List AV} {st e : TypeId} (hx : S.ev x = some (.a (.v (.slice (some A) m c)))) (hy : SrcOk w0 C0 S y (min sn m) sn xs) (hA : 0 < min sn m → A = ⟨g, off, none⟩) (hi : S.objs[i]? = some ⟨g, true, .box cs⟩)
    (hst : sliceT P st = some e) (hsz : szT P e = some sz) (hz : 0 < sz) (hl : xs.length = min sn m * sz) (hfit : off + min sn m * sz ≤ cs.length) (ht : Nat.blt t S.nt = true)
    (hr : AWL P w0 C0 ops rest Q (AState.put ⟨S.nt, S.slots, S.objs.set i ⟨g, true, .box (if 0 < min sn m then cs.take off ++ xs ++ cs.drop (off + xs.length) else cs)⟩⟩ t (.a (.v (.int .i64 (min sn m : Nat)))))) :
    AWL P w0 C0 ops (⟨some t, .call ⟨.builtin .copy, #[x, y], #[st, st]⟩, ty, pos, aft, none⟩ :: rest) Q S := by
  rintro a w ⟨C, T, hs⟩
  obtain ⟨arr, t0, g1, g2⟩ := (hs.objs _ (mem_of_get hi)).1
  have harr := box_get g2
  obtain ⟨sA, sc, vs, h1, h2, h3, h4⟩ := hy C T a w hs
  have hvl : vs.length = xs.length := h2.1
  have hrun := run_copyV (P := P) (w := w) (ty := ty) hst hsz (m := m) (c := c) (sc := sc) g1 hA (by rw [hvl, hl]) h4 h3 (by rw [harr]; exact hfit) hz
  refine wpList_plain rfl (fun K hK => ?_)
  unfold Oper.wp
  have hexec : (execOp a.eval ⟨some t, .call ⟨.builtin .copy, #[x, y], #[st, st]⟩, ty, pos, aft, none⟩).run P w = .ok (.value (.int .i64 (min sn m : Nat))) (if 0 < min sn m then w.setRow g (arr.toList.take off ++ vs ++ arr.toList.drop (off + vs.length)).toArray else w) := by
    simp [execOp, resolve, invoke, builtin, hs.evv hx, h1, hrun]
  rw [hexec]
  refine hK _ _ (hr _ _ ⟨C, T, SimC.put ?_ ht (srel_v _)⟩)
  by_cases hm : 0 < min sn m
  · rw [if_pos hm, if_pos hm]
    have r1 := rels_take_drop g2 0 off
    have r2 := rels_take_drop g2 (off + vs.length) cs.length
    simp only [List.drop_zero] at r1
    rw [List.take_of_length_le (by simp), List.take_of_length_le (by simp; omega)] at r2
    exact hs.setObj hi (w' := w.setRow g (arr.toList.take off ++ vs ++ arr.toList.drop (off + vs.length)).toArray) (Nat.le_refl _) rfl rfl rfl (by simp) (fun k hk => setRow_other w g k _ hk) ⟨_, t0, setRow_heap w g arr _ t0 _ g1, by rw [← hvl]; simpa using (r1.append h2).append r2⟩
  · rw [if_neg hm, if_neg hm]
    exact hs.setObj hi (w' := w) (Nat.le_refl _) rfl rfl rfl rfl (fun _ _ => rfl) ⟨arr, t0, g1, g2⟩
theorem srcOk_box (j : Nat) {y : Operand} {A : Addr} {k n sn sc g off : Nat} {rw' : Bool} {cs : List AV} (hy : S.ev y = some (.a (.v (.slice (some A) sn sc)))) (hA : 0 < n → A = ⟨g, off, none⟩) (hj : S.objs[j]? = some ⟨g, rw', .box cs⟩) (hn : n = 0 → ((cs.drop off).take n) = []) (h1 : ((cs.drop off).take n).all AV.one = true) (hfit : off + n ≤ cs.length) :
    SrcOk w0 C0 S y k sn ((cs.drop off).take n) := by
  intro C T a w hs
  obtain ⟨arr, t0, g1, g2⟩ := (hs.objs _ (mem_of_get hj)).1
  have hr := rels_take_drop g2 off n
  refine ⟨some A, sc, (arr.toList.drop off).take n, hs.evv hy, hr, hr.ones h1, fun i v hv => ?_⟩
  rw [List.getElem?_take] at hv
  split at hv
  · rename_i hi
    obtain rfl := hA (by omega)
    rw [List.getElem?_drop] at hv
    exact ⟨g, off, rfl, by rw [cell_of_row w g (off + i) arr t0 (0, 0) g1]; simpa using hv⟩
  · cases hv
theorem srcOk_sl {y : Operand} {sv : SV} {k sz : Nat} {l : List (List AV)} (hy : S.ev y = some sv) (hl : sv.av = .sl sz l) : SrcOk w0 C0 S y k l.length ((l.take k).flatten) := by
  intro C T a w hs
  have h := (hs.ev hy).av
  rw [hl] at h
  obtain ⟨A, cap, b, o, hv, hcap, hA, hR⟩ := rel_sl_inv h
  have hR' := Row.take hR k
  obtain ⟨vs, v1, v2, v3⟩ := hR'.vals
  refine ⟨A, cap, vs, hv, v1, fun v hv => ?_, fun j v hj => ?_⟩
  · obtain ⟨j, hj⟩ := List.getElem?_of_mem hv
    exact hs.one _ _ _ (v3 j v hj)
  · have hne : l ≠ [] := fun e => by subst e; simp at v1; have := v1.nil_inv; subst this; simp at hj
    exact ⟨b, o, hA hne, (hs.com _ _ _ (v3 j v hj)).cell⟩
end Go.Proofs.YtcbhhjahjnlfhaaDoor.A
namespace Go.Proofs.YtcbhhjahjnlfhaaDoor.A
open Go Go.RowKit
set_option linter.unusedVariables false
set_option linter.unusedSimpArgs false
set_option linter.unusedSectionVars false
variable {P : Program} {w0 : Base} {C0 C : CS} {T : TS} {S S' : AState} {a : Act} {w : World} {ops : Array Oper} {rest : List Oper} {o : Oper} {Q : Exit → AState → Prop}
variable {t : Nat} {ty ty' : TypeId} {pos : String} {aft : Array Edge}
theorem objs_same {i : Nat} {ob : OE} (hi : S.objs[i]? = some ob) : S.objs.set i ob = S.objs := by
  apply List.ext_getElem?
  intro j
  rw [List.getElem?_set]
  by_cases hij : i = j
  · subst hij; rw [if_pos rfl]; split
    · exact hi.symm
    · rename_i h; rw [List.getElem?_eq_none (by omega)]
  · simp [hij]
theorem SrcOk.src {st e sz m : Nat} {y : Operand} {xs : List AV} (hy : SrcOk w0 C0 S y m m xs) (hst : sliceT P st = some e) (hs0 : 0 < sz) (hl : xs.length = m * sz) (hs : SimC w0 C0 C T S a w) :
    ∃ sA sc vs, a.eval y = .slice sA m sc ∧ Rels C xs vs ∧ (∀ v ∈ vs, v.oneCell' = true) ∧ Src P sz st (.slice sA m sc) m vs w := by
  obtain ⟨sA, sc, vs, h1, h2, h3, h4⟩ := hy C T a w hs
  refine ⟨sA, sc, vs, h1, h2, h3, ?_⟩
  have hvl : vs.length = m * sz := h2.1.trans hl
  cases sA with
  | some A =>
    refine Src.ofSlice w (sliceT_un hst) A m sc vs hvl (fun j v hj => ?_) h3
    obtain ⟨b, o, g1, g2⟩ := h4 j v hj
    cases g1
    rw [addr_add]; exact g2
  | none =>
    have hv : vs = [] := by
      cases vs with
      | nil => rfl
      | cons v r => obtain ⟨b, o, g1, _⟩ := h4 0 v rfl; cases g1
    subst hv
    have hm : m = 0 := by
      rcases Nat.mul_eq_zero.1 hvl.symm with h | h
      · exact h
      · omega
    subst hm
    exact Src.ofNil w (sliceT_un hst) sc
theorem SrcOk.first {sz i c k0 : Nat} {x : Operand} {xs : List AV} (hx : SrcOk w0 C0 S x k0 i xs) (hs0 : 0 < sz) (hl : xs.length = i * sz) (hc : ∀ C T a w, SimC w0 C0 C T S a w → ∃ A, a.eval x = .slice A i c) (hs : SimC w0 C0 C T S a w) :
    ∃ sA vs, a.eval x = .slice sA i c ∧ Rels C xs vs ∧ (Builtin.firstCells sz i (.slice sA i c)).run P w.drew = .ok vs.toArray w.drew := by
  obtain ⟨sA, sc, vs, h1, h2, h3, h4⟩ := hx C T a w hs
  obtain ⟨A', hA'⟩ := hc C T a w hs
  rw [h1] at hA'; cases hA'
  refine ⟨sA, vs, h1, h2, ?_⟩
  cases hvs : vs with
  | nil =>
    have : i * sz = 0 := by rw [← hl, ← h2.1, hvs]; rfl
    have hi0 : i = 0 := by rcases Nat.mul_eq_zero.1 this with h | h; exact h; omega
    subst hi0
    cases sA <;> simp [Builtin.firstCells, loadCells, loadCellsFrom]
  | cons v0 vr =>
    obtain ⟨b, o, rfl, _⟩ := h4 0 v0 (by rw [hvs]; rfl)
    have := run_load_cells (P := P) (w := w.drew) (b := b) (o := o) (n := i * sz) (cs := vs) (by rw [h2.1, hl]) (fun j v hj => by obtain ⟨b', o', g1, g2⟩ := h4 j v hj; cases g1; exact g2)
    rw [← hvs]
    simpa [Builtin.firstCells] using this
theorem r_appendR (i : Nat) {x y : Operand} {g n m cap sz : Nat} {cs xs : List AV} {st e : TypeId} (hx : S.ev x = some (.a (.v (.slice (some ⟨g, 0, none⟩) n cap)))) (hy : SrcOk w0 C0 S y m m xs) (hl : xs.length = m * sz) (hi : S.objs[i]? = some ⟨g, true, .box cs⟩)
    (hst : sliceT P st = some e) (hsz : szT P e = some sz) (hs0 : 0 < sz) (hroom : n + m ≤ cap) (hfit : (n + m) * sz ≤ cs.length) (ht : Nat.blt t S.nt = true)
    (hr : AWL P w0 C0 ops rest Q (AState.put ⟨S.nt, S.slots, S.objs.set i ⟨g, true, .box (cs.take (n * sz) ++ xs ++ cs.drop (n * sz + xs.length))⟩⟩ t (.a (.v (.slice (some ⟨g, 0, none⟩) (n + m) cap))))) :
    AWL P w0 C0 ops (⟨some t, .call ⟨.builtin .append, #[x, y], #[st, st]⟩, ty, pos, aft, none⟩ :: rest) Q S := by
  rintro a w ⟨C, T, hs⟩
  obtain ⟨arr, t0, g1, g2⟩ := (hs.objs _ (mem_of_get hi)).1
  have harr := box_get g2
  obtain ⟨sA, sc, vs, h1, h2, h3, h4⟩ := hy C T a w hs
  have hvl : vs.length = m * sz := h2.1.trans hl
  have hexec : ∀ (v : Value) (w' : World), (Builtin.append_ #[st, st] ty #[a.eval x, a.eval y]).run P w = .ok v w' → (execOp a.eval ⟨some t, .call ⟨.builtin .append, #[x, y], #[st, st]⟩, ty, pos, aft, none⟩).run P w = .ok (.value v) w' := by
    intro v w' h
    simp [execOp, resolve, invoke, builtin, h]
  rw [hs.evv hx, h1] at hexec
  refine wpList_plain rfl (fun K hK => ?_)
  unfold Oper.wp
  by_cases hm : m = 0
  · subst hm
    have hx0 : xs = [] := List.eq_nil_of_length_eq_zero (by simpa using hl)
    subst hx0
    have hrun := run_append_zero (P := P) (w := w) (ty := ty) hst hsz (some ⟨g, 0, none⟩) sA n cap sc (by omega)
    rw [hexec _ _ hrun]
    have he : cs.take (n * sz) ++ [] ++ cs.drop (n * sz + ([] : List AV).length) = cs := by simp
    rw [he, objs_same hi] at hr
    exact hK _ _ (hr _ _ ⟨C, T, hs.put ht (srel_v _)⟩)
  · have hpos : 0 < vs.length := by rw [hvl]; exact Nat.mul_pos (by omega) hs0
    obtain ⟨b, o, rfl, _⟩ := h4 0 vs[0] (List.getElem?_eq_getElem hpos)
    have hfit' : n * sz + vs.length ≤ arr.size := by rw [harr, hvl, ← Nat.add_mul]; exact hfit
    have hrun := run_append_room' (P := P) (w := w) (ty := ty) hst hsz t0 g n cap arr g1 ⟨b, o, none⟩ m sc vs hvl (fun j v hj => by obtain ⟨b', o', q1, q2⟩ := h4 j v hj; cases q1; rw [addr_add]; exact q2) h3 hroom hfit'
    rw [hexec _ _ hrun]
    refine hK _ _ (hr _ _ ⟨C, T, SimC.put ?_ ht (srel_v _)⟩)
    have r1 := rels_take_drop g2 0 (n * sz)
    have r2 := rels_take_drop g2 (n * sz + vs.length) cs.length
    simp only [List.drop_zero] at r1
    rw [List.take_of_length_le (by simp), List.take_of_length_le (by simp; omega)] at r2
    exact hs.setObj hi (w' := w.setRow g (arr.toList.take (n * sz) ++ vs ++ arr.toList.drop (n * sz + vs.length)).toArray) (Nat.le_refl _) rfl rfl rfl (by simp) (fun k hk => setRow_other w g k _ hk) ⟨_, t0, setRow_heap w g arr _ t0 _ g1, by rw [← h2.1]; simpa using (r1.append h2).append r2⟩
theorem r_appendG {x y : Operand} {k0 n c m sz bytes : Nat} {xs ys : List AV} {st e : TypeId} (hx : SrcOk w0 C0 S x k0 n xs) (hc : ∀ C T a w, SimC w0 C0 C T S a w → ∃ A, a.eval x = .slice A n c) (hlx : xs.length = n * sz) (hy : SrcOk w0 C0 S y m m ys) (hl : ys.length = m * sz)
    (hst : sliceT P st = some e) (hsz : szT P e = some sz) (hby : bytesT P e = some bytes) (hz : (zeroT P e).map (·.length) = some sz) (hs0 : 0 < sz) (hroom : c < n + m) (hb : (n + m) * 2 * bytes ≤ 281474976710656) (hbig : n + m ≤ 1000000000) (ht : Nat.blt t S.nt = true)
    (hr : ∀ b cap (ext : List AV), n + m ≤ cap → (n + m) * sz + ext.length = cap * sz → AWL P w0 C0 ops rest Q (AState.put ⟨S.nt, S.slots, ⟨b, true, .box (xs ++ ys ++ ext)⟩ :: S.objs⟩ t (.a (.v (.slice (some ⟨b, 0, none⟩) (n + m) cap))))) :
    AWL P w0 C0 ops (⟨some t, .call ⟨.builtin .append, #[x, y], #[st, st]⟩, ty, pos, aft, none⟩ :: rest) Q S := by
  rintro a w ⟨C, T, hs⟩
  obtain ⟨inf, hi, hi1, hi2, z, hiz, hzl⟩ := append_facts hsz hby hz
  obtain ⟨sA, vs, h1, h2, hold⟩ := hx.first (P := P) hs0 hlx hc hs
  obtain ⟨sB, sc, us, k1, k2, k3, k4⟩ := hy.src (P := P) hst hs0 hl hs
  have hfit : Builtin.nextslicecap (n + m) c * inf.bytes ≤ 281474976710656 := by
    rw [hi2]
    exact Nat.le_trans (Nat.mul_le_mul_right _ (by have := nextslicecap_le hroom; omega)) hb
  have hrun := run_append_grow_src (P := P) w st st ty e inf z (sliceT_un hst) hi hiz sA n c vs (by rw [hi1]; exact hold) (.slice sB m sc) m us (by rw [hi1]; exact k4) hroom (by omega) hfit
  have hcap : n + m ≤ grownCap w (n + m) c e := grownCap_ge _ _ _ _
  refine wpList_plain rfl (fun K hK => ?_)
  unfold Oper.wp
  have hexec : (execOp a.eval ⟨some t, .call ⟨.builtin .append, #[x, y], #[st, st]⟩, ty, pos, aft, none⟩).run P w = .ok (.value (.slice (some ⟨w.heap.size, 0, none⟩) (n + m) (grownCap w (n + m) c e)))
      (w.drew.alloc (.cells ((vs ++ us).toArray ++ Builtin.zeroCells z.cells (grownCap w (n + m) c e - (n + m))) e)) := by
    simp [execOp, resolve, invoke, builtin, h1, k1, hrun]
  rw [hexec]
  refine hK _ _ (hr w.heap.size (grownCap w (n + m) c e) ((Builtin.zeroCells z.cells (grownCap w (n + m) c e - (n + m))).toList.map AV.v) hcap ?_ _ _ ⟨C, T, ?_⟩)
  · rw [List.length_map, Array.length_toList, size_zeroCells, hzl, ← Nat.add_mul]; congr 1; omega
  · have hs' := hs.drew.newObj (.cells ((vs ++ us).toArray ++ Builtin.zeroCells z.cells (grownCap w (n + m) c e - (n + m))) e)
      (o := .box (xs ++ ys ++ (Builtin.zeroCells z.cells (grownCap w (n + m) c e - (n + m))).toList.map AV.v)) ⟨_, e, heap_alloc_at _ _, by rw [Array.toList_append]; exact (h2.append k2).append (rels_vals _)⟩
    exact hs'.put ht (srel_v _)
theorem r_slice3 {xt e sz : Nat} {x : Operand} {sv : SV} {l : List (List AV)} {y z : Operand} {k k' : IntKind} {hi mx : Int} (hx : S.ev x = some sv) (hl : sv.av = .sl sz l) (hy : S.ev y = some (.a (.v (.int k hi)))) (hz : S.ev z = some (.a (.v (.int k' mx)))) (hst : sliceT P xt = some e) (hsz : szT P e = some sz)
    (h0 : 0 ≤ hi) (h1 : hi ≤ mx) (h2 : mx ≤ l.length) (ht : Nat.blt t S.nt = true) (hr : AWL P w0 C0 ops rest Q (S.put t (.a (.sl sz (l.take hi.toNat))))) : AWL P w0 C0 ops (⟨some t, .slice xt x none (some y) (some z), ty, pos, aft, none⟩ :: rest) Q S :=
  awl_pure ht (fun C T a w hs => by
    have h := (hs.ev hx).av
    rw [hl] at h
    obtain ⟨A, cap, b, o, hv, hcap, hA, hR⟩ := rel_sl_inv h
    obtain ⟨hu, he⟩ := sliceT_el hst
    refine ⟨sliced A 0 hi.toNat mx.toNat sz, ?_, show Rel C _ _ from ?_⟩
    · simp [execOp, hv, hs.evv hy, hs.evv hz, run_sliceAt_slice w xt _ _ _ _ hu, run_slice_hm w xt A l.length cap hu k k' hi mx h0 h1 (by omega), he, run_sz hsz]
    · have := rel_part (l := l.take mx.toNat) (cap := mx.toNat) (lo := 0) (hi := hi.toNat) (A := A) (b := b) (o := o) (by simp; omega) (fun hne => hA (fun e => hne (by rw [e]; simp))) (hR.take _) (by omega) (by simp; omega)
      rw [List.drop_zero, List.take_take, Nat.min_eq_left (by omega)] at this
      exact this) hr
theorem r_slice3L {xt e sz : Nat} {x : Operand} {sv : SV} {l : List (List AV)} {x1 y z : Operand} {k1 k k' : IntKind} {lo hi mx : Int} (hx : S.ev x = some sv) (hl : sv.av = .sl sz l) (hx1 : S.ev x1 = some (.a (.v (.int k1 lo)))) (hy : S.ev y = some (.a (.v (.int k hi)))) (hz : S.ev z = some (.a (.v (.int k' mx)))) (hst : sliceT P xt = some e) (hsz : szT P e = some sz)
    (h00 : 0 ≤ lo) (h0 : lo ≤ hi) (h1 : hi ≤ mx) (h2 : mx ≤ l.length) (ht : Nat.blt t S.nt = true) (hr : AWL P w0 C0 ops rest Q (S.put t (.a (.sl sz ((l.take hi.toNat).drop lo.toNat))))) : AWL P w0 C0 ops (⟨some t, .slice xt x (some x1) (some y) (some z), ty, pos, aft, none⟩ :: rest) Q S :=
  awl_pure ht (fun C T a w hs => by
    have h := (hs.ev hx).av
    rw [hl] at h
    obtain ⟨A, cap, b, o, hv, hcap, hA, hR⟩ := rel_sl_inv h
    obtain ⟨hu, he⟩ := sliceT_el hst
    refine ⟨sliced A lo.toNat hi.toNat mx.toNat sz, ?_, show Rel C _ _ from ?_⟩
    · simp [execOp, hv, hs.evv hx1, hs.evv hy, hs.evv hz, run_sliceAt_slice w xt _ _ _ _ hu, run_slice_lhm w xt A l.length cap hu k1 k k' lo hi mx h00 h0 h1 (by omega), he, run_sz hsz]
    · have := rel_part (l := l.take mx.toNat) (cap := mx.toNat) (lo := lo.toNat) (hi := hi.toNat) (A := A) (b := b) (o := o) (by simp; omega) (fun hne => hA (fun e => hne (by rw [e]; simp))) (hR.take _) (by omega) (by simp; omega)
      rw [List.take_take, Nat.min_eq_left (by omega)] at this
      exact this) hr
theorem imp_commitS (i t : Nat) {g n cap sz : Nat} {l : List (List AV)} {cs ext : List AV} (ht : S.get t = some (.a (.v (.slice (some ⟨g, 0, none⟩) n cap)))) (hi : S.objs[i]? = some ⟨g, true, .box cs⟩) (hcs : cs = l.flatten ++ ext) (hn : n = l.length) (hcap : n ≤ cap) (hz : ∀ c, c ∈ l → c.length = sz) (hsz : cs.length = cap * sz) (h1 : l.flatten.all AV.one = true) :
    Imp w0 C0 S (AState.put ⟨S.nt, S.slots, S.objs.eraseIdx i⟩ t (.a (.sl sz l))) := by
  rintro a w ⟨C, T, hs⟩
  subst hcs hn
  obtain ⟨arr, t0, g1, g2⟩ := (hs.objs _ (mem_of_get hi)).1
  have harr := box_get g2
  have hlen := flat_len hz
  have hs' : SimC w0 C0 C T ⟨S.nt, S.slots, S.objs.set i ⟨g, true, .buf sz l cap t0⟩⟩ a w := by
    refine hs.setObj hi (w' := w) (Nat.le_refl _) rfl rfl rfl rfl (fun _ _ => rfl) ⟨arr, g1, by rw [harr, hsz], hcap, hz, arr.toList.take (l.length * sz), ?_, ?_, rfl⟩
    · have := rels_take_drop g2 0 (l.length * sz)
      rw [List.drop_zero, List.drop_zero, ← hlen, List.take_left] at this
      rw [← hlen]; exact this
    · have := rels_take_drop g2 0 (l.length * sz)
      rw [List.drop_zero, List.drop_zero, ← hlen, List.take_left] at this
      rw [← hlen]; exact this.ones h1
  have hlt : i < S.objs.length := (List.getElem?_eq_some_iff.1 hi).1
  have := imp_commitB (w0 := w0) (C0 := C0) (S := ⟨S.nt, S.slots, S.objs.set i ⟨g, true, .buf sz l cap t0⟩⟩) i t (sz := sz) (e := t0) (cap := cap) (l := l) ht rfl (by show (S.objs.set i _)[i]? = _; rw [List.getElem?_set]; simp [hlt]) a w ⟨C, T, hs'⟩
  simp only [List.eraseIdx_set_eq] at this
  exact this
theorem srcOk_all {y : Operand} {sv : SV} {k sz : Nat} {l : List (List AV)} (hy : S.ev y = some sv) (hl : sv.av = .sl sz l) : SrcOk w0 C0 S y k l.length l.flatten := by
  have := srcOk_sl (w0 := w0) (C0 := C0) (S := S) (k := l.length) hy hl
  rw [List.take_of_length_le (Nat.le_refl _)] at this
  exact this
theorem srcOk_boxP (j : Nat) (off n : Nat) {y : Operand} {A : Addr} {k sn sc g : Nat} {rw' : Bool} {cs xs : List AV} (hy : S.ev y = some (.a (.v (.slice (some A) sn sc)))) (hA : 0 < n → A = ⟨g, off, none⟩) (hj : S.objs[j]? = some ⟨g, rw', .box cs⟩) (hxs : (cs.drop off).take n = xs) (h1 : xs.all AV.one = true) (hfit : off + n ≤ cs.length) :
    SrcOk w0 C0 S y k sn xs := by
  subst hxs
  exact srcOk_box j hy hA hj (fun h => by subst h; rfl) h1 hfit
theorem r_copyE (i k : Nat) (cs' : List AV) {x y : Operand} {A : Addr} {m c sn g off sz : Nat} {cs xs : List AV} {st e : TypeId} (hx : S.ev x = some (.a (.v (.slice (some A) m c)))) (hk : min sn m = k) (hk0 : 0 < k) (hy : SrcOk w0 C0 S y k sn xs) (hA : A = ⟨g, off, none⟩) (hi : S.objs[i]? = some ⟨g, true, .box cs⟩)
    (hst : sliceT P st = some e) (hsz : szT P e = some sz) (hz : 0 < sz) (hl : xs.length = k * sz) (hfit : off + k * sz ≤ cs.length) (he : cs.take off ++ xs ++ cs.drop (off + k * sz) = cs') (ht : Nat.blt t S.nt = true)
    (hr : AWL P w0 C0 ops rest Q (AState.put ⟨S.nt, S.slots, S.objs.set i ⟨g, true, .box cs'⟩⟩ t (.a (.v (.int .i64 (k : Nat)))))) :
    AWL P w0 C0 ops (⟨some t, .call ⟨.builtin .copy, #[x, y], #[st, st]⟩, ty, pos, aft, none⟩ :: rest) Q S := by
  subst hk he
  refine r_copyV i hx hy (fun _ => hA) hi hst hsz hz hl hfit ht ?_
  rw [if_pos hk0, hl]
  exact hr
theorem r_appendE (i : Nat) (cs' : List AV) {x y : Operand} {g n m cap sz : Nat} {cs xs : List AV} {st e : TypeId} (hx : S.ev x = some (.a (.v (.slice (some ⟨g, 0, none⟩) n cap)))) (hy : SrcOk w0 C0 S y m m xs) (hl : xs.length = m * sz) (hi : S.objs[i]? = some ⟨g, true, .box cs⟩)
    (hst : sliceT P st = some e) (hsz : szT P e = some sz) (hs0 : 0 < sz) (hroom : n + m ≤ cap) (hfit : (n + m) * sz ≤ cs.length) (he : cs.take (n * sz) ++ xs ++ cs.drop (n * sz + m * sz) = cs') (ht : Nat.blt t S.nt = true)
    (hr : AWL P w0 C0 ops rest Q (AState.put ⟨S.nt, S.slots, S.objs.set i ⟨g, true, .box cs'⟩⟩ t (.a (.v (.slice (some ⟨g, 0, none⟩) (n + m) cap))))) :
    AWL P w0 C0 ops (⟨some t, .call ⟨.builtin .append, #[x, y], #[st, st]⟩, ty, pos, aft, none⟩ :: rest) Q S := by
  subst he
  refine r_appendR i hx hy hl hi hst hsz hs0 hroom hfit ht ?_
  rw [hl]; exact hr
end Go.Proofs.YtcbhhjahjnlfhaaDoor.A
namespace Go.Proofs.YtcbhhjahjnlfhaaDoor.A
open Go Go.RowKit
set_option linter.unusedVariables false
set_option linter.unusedSimpArgs false
set_option linter.unusedSectionVars false
variable {P : Program} {w0 : Base} {C0 C : CS} {T : TS} {S S' : AState} {a : Act} {w : World} {ops : Array Oper} {rest : List Oper} {o : Oper} {Q : Exit → AState → Prop}
variable {t : Nat} {ty ty' : TypeId} {pos : String} {aft : Array Edge}
inductive Bnd (S : AState) (d : Nat) : Option Operand → Nat → Prop where
  | none : Bnd S d none d
  | some {y : Operand} {k : IntKind} {n : Nat} (h : S.ev y = some (.a (.v (.int k (n : Int))))) : Bnd S d (some y) n
theorem slicedAt_eq (a : Addr) (l h m s : Nat) : slicedAt a l h m s = sliced (some a) l h m s := by
  unfold slicedAt sliced; split <;> rfl
theorem run_arrPart {st e n : Nat} (hu : P.underlying st = some (.array n e)) (hsz : szT P e = some 1) (hs : SimC w0 C0 C T S a w) (ad : Addr) {lo hi : Option Operand} {l h : Nat} (hl : Bnd S 0 lo l) (hh : Bnd S n hi h) (h1 : l ≤ h) (h2 : h ≤ n) :
    (Instr.sliceAt st (.pointer (some ad)) (lo.map a.eval) (hi.map a.eval) none).run P w = .ok (sliced (some ad) l h n 1) w := by
  obtain ⟨g1, g2, g3⟩ := arrT_un hu
  rw [← slicedAt_eq]
  cases hl with
  | none =>
    cases hh with
    | none =>
      have hrun := run_sliceAt_array_all w st ad g1
      rw [g2, g3, run_sz hsz] at hrun
      exact hrun
    | @some y k _ hy =>
      have hrun := run_sliceAt_array_h w st ad g1 k (h : Int) (by omega) (by rw [g3]; omega)
      rw [g2, g3, run_sz hsz] at hrun
      simp only [Option.map_some, Option.map_none, hs.evv hy]
      exact hrun
  | @some y k _ hx =>
    cases hh with
    | none =>
      have hrun := run_sliceAt_array_l w st ad g1 k (l : Int) (by omega) (by rw [g3]; omega)
      rw [g2, g3, run_sz hsz] at hrun
      simp only [Option.map_some, Option.map_none, hs.evv hx]
      exact hrun
    | @some y' k' _ hy =>
      have hrun := run_sliceAt_array_lh w st ad g1 k k' (l : Int) (h : Int) (by omega) (by omega) (by rw [g3]; omega)
      rw [g2, g3, run_sz hsz] at hrun
      simp only [Option.map_some, hs.evv hx, hs.evv hy]
      exact hrun
theorem r_arrC {st e n l h : Nat} {x : Operand} {lo hi : Option Operand} {cs : List AV} (l' : List (List AV)) (he : ((cs.map fun c => [c]).take h).drop l = l') (hx : S.ev x = some (.a (.cp cs))) (hu : P.underlying st = some (.array n e)) (hsz : szT P e = some 1) (hn : cs.length = n) (hl : Bnd S 0 lo l) (hh : Bnd S n hi h) (h1 : l ≤ h) (h2 : h ≤ n) (ht : Nat.blt t S.nt = true)
    (hr : AWL P w0 C0 ops rest Q (S.put t (.a (.sl 1 l')))) : AWL P w0 C0 ops (⟨some t, .slice st x lo hi none, ty, pos, aft, none⟩ :: rest) Q S := by
  subst he
  exact awl_pure ht (fun C T a w hs => by
    have hv := hs.ev hx
    generalize he : a.eval x = u at hv
    obtain ⟨b, off, rfl, hc⟩ := rel_cp_inv hv
    refine ⟨sliced (some ⟨b, off, none⟩) l h n 1, by simp [execOp, he, run_arrPart hu hsz hs ⟨b, off, none⟩ hl hh h1 h2], ?_⟩
    refine rel_part (b := b) (o := off) (l := cs.map fun c => [c]) (by simp [hn]) (fun _ => rfl) ⟨fun c hc' => by obtain ⟨y, _, rfl⟩ := List.mem_map.1 hc'; rfl, fun i c j x' g1 g2 => ?_⟩ h1 (by simp [hn]; exact h2)
    rw [List.getElem?_map] at g1
    cases hi : cs[i]? with
    | none => simp [hi] at g1
    | some y =>
      simp [hi] at g1
      subst g1
      cases j with
      | succ j => simp at g2
      | zero =>
        simp at g2; subst g2
        simpa using hc i y hi) hr
theorem r_arrB {st e n l h b off : Nat} {x : Operand} {lo hi : Option Operand} (hx : S.ev x = some (.a (.v (.pointer (some ⟨b, off, none⟩))))) (hu : P.underlying st = some (.array n e)) (hsz : szT P e = some 1) (hl : Bnd S 0 lo l) (hh : Bnd S n hi h) (h1 : l ≤ h) (h2 : h ≤ n) (h3 : l < n) (ht : Nat.blt t S.nt = true)
    (hr : AWL P w0 C0 ops rest Q (S.put t (.a (.v (.slice (some ⟨b, off + l, none⟩) (h - l) (n - l)))))) : AWL P w0 C0 ops (⟨some t, .slice st x lo hi none, ty, pos, aft, none⟩ :: rest) Q S :=
  awl_pure ht (fun C T a w hs => by
    refine ⟨sliced (some ⟨b, off, none⟩) l h n 1, by simp [execOp, hs.evv hx, run_arrPart hu hsz hs ⟨b, off, none⟩ hl hh h1 h2], ?_⟩
    have hv : sliced (some ⟨b, off, none⟩) l h n 1 = .slice (some ⟨b, off + l, none⟩) (h - l) (n - l) := by
      unfold sliced
      rw [if_neg (by omega)]
      simp [addr_add]
    rw [hv]; exact srel_v _) hr
theorem r_idxArr {xt e n : Nat} {x y : Operand} {k : IntKind} {i : Nat} {cs : List AV} {c : AV} (hx : S.ev x = some (.a (.agg cs))) (hy : S.ev y = some (.a (.v (.int k (i : Int))))) (hu : P.underlying xt = some (.array n e)) (hsz : szT P e = some 1) (ha : aggT P e = some false) (hi : i < n) (hc : cs[i]? = some c) (ht : Nat.blt t S.nt = true)
    (hr : AWL P w0 C0 ops rest Q (S.put t (.a c))) : AWL P w0 C0 ops (⟨some t, .index xt x y, ty, pos, aft, none⟩ :: rest) Q S :=
  awl_pure ht (fun C T a w hs => by
    have h := hs.ev hx
    generalize he : a.eval x = u at h
    obtain ⟨arr, rfl⟩ : ∃ arr, u = .agg arr := by cases h; exact ⟨_, rfl⟩
    obtain ⟨v, hv, hrv⟩ := (rel_agg.1 h).get hc
    refine ⟨v, ?_, hrv⟩
    have hil : i < arr.size := by have := (List.getElem?_eq_some_iff.1 hv).1; simpa using this
    have hp := run_part1 (P := P) ha (xs := arr) (off := i * 1) (v := v) (by simpa using hv) w
    rw [Nat.mul_one] at hp
    simp [execOp, he, hs.evv hy, Instr.index, asIntOf, Sem.run_bind, run_underlying hu, hi, run_sz hsz, hp, Result.andThen]) hr
theorem r_arrAtC {st e n : Nat} {x y : Operand} {k : IntKind} {i : Nat} {cs : List AV} (hx : S.ev x = some (.a (.cp cs))) (hy : S.ev y = some (.a (.v (.int k (i : Int))))) (hu : P.underlying st = some (.array n e)) (hsz : szT P e = some 1) (hi : i < n) (ht : Nat.blt t S.nt = true)
    (hr : AWL P w0 C0 ops rest Q (S.put t (.a (.cp (cs.drop i))))) : AWL P w0 C0 ops (⟨some t, .indexAddr st x y, ty, pos, aft, none⟩ :: rest) Q S :=
  awl_pure ht (fun C T a w hs => by
    have h := hs.ev hx
    generalize he : a.eval x = u at h
    obtain ⟨b, off, rfl, hc⟩ := rel_cp_inv h
    have q0 : (0 : Int) ≤ (i : Int) := by omega
    have q1 : (i : Int) < (n : Int) := by omega
    refine ⟨.pointer (some ⟨b, off + i, none⟩), by simp [execOp, he, hs.evv hy, Instr.indexAt, asIntOf, Sem.run_bind, run_underlying hu, Instr.sureAddr, q0, q1, hi, Nat.not_le.2 hi, run_sz hsz, addr_add], ?_⟩
    refine rel_cp_mk (fun j c hj => ?_)
    rw [List.getElem?_drop] at hj
    obtain ⟨u, h1, h2⟩ := hc _ c hj
    exact ⟨u, by rw [Nat.add_assoc]; exact h1, h2⟩) hr
def bitI : BinOp → IntKind → Int → Int → Option Int
  | .and, k, i, j => some (k.wrap (BitVec.ofInt k.bits i &&& BitVec.ofInt k.bits j).toNat)
  | .or, k, i, j => some (k.wrap (BitVec.ofInt k.bits i ||| BitVec.ofInt k.bits j).toNat)
  | .xor, k, i, j => some (k.wrap (BitVec.ofInt k.bits i ^^^ BitVec.ofInt k.bits j).toNat)
  | _, _, _, _ => none
theorem r_bits {op : BinOp} {xt yt : TypeId} {x y : Operand} {k : IntKind} {i j n : Int} (m : Int) (hx : S.ev x = some (.a (.v (.int k i)))) (hy : S.ev y = some (.a (.v (.int k j))))
    (hb : bitI op k i j = some n) (hm : n = m) (ht : Nat.blt t S.nt = true) (hr : AWL P w0 C0 ops rest Q (S.put t (.a (.v (.int k m))))) :
    AWL P w0 C0 ops (⟨some t, .binOp op xt x y yt, ty, pos, aft, none⟩ :: rest) Q S :=
  awl_pure ht (fun C T a w hs => ⟨.int k m, by
    simp only [execOp, hs.evv hx, hs.evv hy]
    cases op <;> simp [bitI] at hb <;> subst hm <;> subst hb <;> simp [eqGuard, binOp, Op.intBits], srel_v _⟩) hr
theorem or_byte {a x : Nat} (hx : x < 256) (ha : a * 256 + x < 18446744073709551616) : IntKind.u64.wrap ((BitVec.ofInt 64 ((a * 256 : Nat) : Int) ||| BitVec.ofInt 64 ((x : Nat) : Int)).toNat : Nat) = ((a * 256 + x : Nat) : Int) := by
  have h64 : (2 : Nat) ^ 64 = 18446744073709551616 := by simp
  have h1 : (BitVec.ofInt 64 ((a * 256 : Nat) : Int)).toNat = a * 256 := by
    rw [BitVec.ofInt_natCast, BitVec.toNat_ofNat, h64]; omega
  have h2 : (BitVec.ofInt 64 ((x : Nat) : Int)).toNat = x := by
    rw [BitVec.ofInt_natCast, BitVec.toNat_ofNat, h64]; omega
  rw [BitVec.toNat_or, h1, h2]
  have h3 : a * 256 ||| x = a * 256 + x := by
    have := Nat.shiftLeft_add_eq_or_of_lt (b := x) (i := 8) (by omega) a
    rw [Nat.shiftLeft_eq] at this; exact this.symm
  rw [h3]; exact wrap_u64 (by omega)
def strC (s : ByteArray) : List AV := s.data.toList.map fun x => .v (.int .u8 x.toNat)
theorem r_copyStr (i k : Nat) (cs' : List AV) {x y : Operand} {m c g off : Nat} {s : ByteArray} {cs : List AV} {st tt e : TypeId} (hx : S.ev x = some (.a (.v (.slice (some ⟨g, off, none⟩) m c)))) (hy : S.ev y = some (.a (.v (.string s)))) (hk : min s.size m = k) (hi : S.objs[i]? = some ⟨g, true, .box cs⟩)
    (hst : sliceT P st = some e) (hsz : szT P e = some 1) (hfit : off + k ≤ cs.length) (he : cs.take off ++ (strC s).take k ++ cs.drop (off + k) = cs') (ht : Nat.blt t S.nt = true)
    (hr : AWL P w0 C0 ops rest Q (AState.put ⟨S.nt, S.slots, S.objs.set i ⟨g, true, .box cs'⟩⟩ t (.a (.v (.int .i64 (k : Nat)))))) :
    AWL P w0 C0 ops (⟨some t, .call ⟨.builtin .copy, #[x, y], #[st, tt]⟩, ty, pos, aft, none⟩ :: rest) Q S := by
  subst he
  rintro a w ⟨C, T, hs⟩
  obtain ⟨arr, t0, g1, g2⟩ := (hs.objs _ (mem_of_get hi)).1
  have harr := box_get g2
  have hbx : Rels C ((strC s).take k) (((s.data.toList.map fun x => Value.int .u8 x.toNat)).take k) := by
    have := rels_vs (C := C) (((s.data.toList.map fun x => Value.int .u8 x.toNat)).take k)
    rw [← List.map_take, List.map_map] at this
    rw [strC, ← List.map_take, ← List.map_take]
    exact this
  have hsl : s.data.toList.length = s.size := by rw [Array.length_toList]; rfl
  have hvl : (((s.data.toList.map fun x => Value.int .u8 x.toNat)).take k).length = k := by rw [List.length_take, List.length_map, hsl]; omega
  have hst' := run_storeCells_at P g off t0 (((s.data.toList.map fun x => Value.int .u8 x.toNat)).take k) 0 arr w g1 (by rw [hvl, harr]; simpa using hfit) (fun v hv => by obtain ⟨x, _, rfl⟩ := List.mem_map.1 (List.mem_of_mem_take hv); rfl)
  simp only [Nat.add_zero, hvl] at hst'
  have hf : (Builtin.firstCells 1 k (.string s)).run P w = .ok (((s.data.toList.map fun x => Value.int .u8 x.toNat)).take k).toArray w := by
    simp only [Builtin.firstCells, Sem.run_pure]
    congr 1
    apply Array.ext'
    rw [ByteArray.data_extract]
    simp [List.map_take]
  have hk' : Nat.min s.size m = k := hk
  refine wpList_plain rfl (fun K hK => ?_)
  unfold Oper.wp
  have hexec : (execOp a.eval ⟨some t, .call ⟨.builtin .copy, #[x, y], #[st, tt]⟩, ty, pos, aft, none⟩).run P w = .ok (.value (.int .i64 (k : Nat))) (w.setRow g (arr.toList.take off ++ ((s.data.toList.map fun x => Value.int .u8 x.toNat)).take k ++ arr.toList.drop (off + k)).toArray) := by
    simp [execOp, resolve, invoke, builtin, hs.evv hx, hs.evv hy, Builtin.copy_, run_underlying (sliceT_un hst), Sem.run_bind, Result.andThen, run_sz hsz, Builtin.lenOf, hf, hst', goInt, hk']
  rw [hexec]
  refine hK _ _ (hr _ _ ⟨C, T, SimC.put ?_ ht (srel_v _)⟩)
  have r1 := rels_take_drop g2 0 off
  have r2 := rels_take_drop g2 (off + k) cs.length
  simp only [List.drop_zero] at r1
  rw [List.take_of_length_le (by simp), List.take_of_length_le (by simp; omega)] at r2
  exact hs.setObj hi (Nat.le_refl _) rfl rfl rfl (by simp) (fun q hq => setRow_other w g q _ hq) ⟨_, t0, setRow_heap w g arr _ t0 _ g1, by simpa using (r1.append hbx).append r2⟩
theorem r_makeSliceZ {st e bytes sz : Nat} {zs : List Value} {x y : Operand} {k k' : IntKind} {n : Nat} (hx : S.ev x = some (.a (.v (.int k (n : Int))))) (hy : S.ev y = some (.a (.v (.int k' (n : Int))))) (hst : sliceT P st = some e) (hsz : szT P e = some sz) (hby : bytesT P e = some bytes) (hz : zeroT P e = some zs) (hzl : zs.length = sz)
    (hb : bytes * n ≤ 281474976710656) (hn : n ≤ 1000000000) (ht : Nat.blt t S.nt = true)
    (hr : ∀ b, AWL P w0 C0 ops rest Q (AState.put ⟨S.nt, S.slots, ⟨b, true, .box ((List.replicate n (zs.map AV.v)).flatten)⟩ :: S.objs⟩ t (.a (.v (.slice (some ⟨b, 0, none⟩) n n))))) :
    AWL P w0 C0 ops (⟨some t, .makeSlice st x y, ty, pos, aft, none⟩ :: rest) Q S := by
  rintro a w ⟨C, T, hs⟩
  unfold szT at hsz
  unfold bytesT at hby
  unfold zeroT at hz
  cases hi : P.info? e with
  | none => rw [hi] at hsz; cases hsz
  | some i =>
    rw [hi] at hsz hby hz
    simp only [Option.map_some, Option.some.injEq, Option.bind_some] at hsz hby hz
    cases hiz : i.zero with
    | none => rw [hiz] at hz; cases hz
    | some z =>
      rw [hiz] at hz
      simp only [Option.map_some, Option.some.injEq] at hz
      have hzc : z.cells = zs.toArray := by apply Array.ext'; simpa using hz
      have hbi : (i.bytes : Int) * (n : Int) ≤ 281474976710656 := by
        rw [hby]
        have : ((bytes * n : Nat) : Int) ≤ 281474976710656 := by omega
        rwa [Int.natCast_mul] at this
      have hrun := run_make (P := P) w st e i z (sliceT_un hst) hi hiz k k' (n : Int) (n : Int) (by omega) (Int.le_refl _) hbi (by omega)
      rw [hzc, hsz] at hrun
      simp only [Int.toNat_natCast] at hrun
      refine wpList_plain rfl (fun K hK => ?_)
      unfold Oper.wp
      have hex : (execOp a.eval ⟨some t, .makeSlice st x y, ty, pos, aft, none⟩).run P w = .ok (.value (.slice (some ⟨w.heap.size, 0, none⟩) n n)) (w.alloc (.cells (madeCells zs.toArray (n * sz)) e)) := by
        simp [execOp, Sem.run_bind, hs.evv hx, hs.evv hy, hrun]
      rw [hex]
      have hfl : (madeCells zs.toArray (n * sz)).toList = (List.replicate n zs).flatten := by
        apply List.ext_getElem?
        intro j
        have hz' : ∀ c ∈ List.replicate n zs, c.length = sz := fun c hc => by rw [List.eq_of_mem_replicate hc]; exact hzl
        have hlen : (List.replicate n zs).flatten.length = n * sz := by simp [List.length_flatten, hzl]
        by_cases hj : j < n * sz
        · have hs0 : 0 < sz := by rcases Nat.eq_zero_or_pos sz with h | h; subst h; omega; exact h
          have hd : j / sz < n := by rw [Nat.div_lt_iff_lt_mul hs0]; exact hj
          have hm : j % sz < zs.length := by rw [hzl]; exact Nat.mod_lt _ hs0
          have e1 : (List.replicate n zs).flatten[j]? = zs[j % sz]? := by
            have key : ∀ (n j : Nat), j < n * sz → (List.replicate n zs).flatten[j]? = zs[j % sz]? := by
              intro n
              induction n with
              | zero => intro j h; omega
              | succ n ih =>
                intro j h
                rw [List.replicate_succ, List.flatten_cons]
                by_cases hjs : j < sz
                · rw [List.getElem?_append_left (by omega), Nat.mod_eq_of_lt hjs]
                · rw [List.getElem?_append_right (by omega), hzl, ih (j - sz) (by rw [Nat.succ_mul] at h; omega), Nat.mod_eq_sub_mod (by omega : j ≥ sz)]
            exact key n j hj
          rw [e1]
          rw [List.getElem?_eq_getElem hm]
          have hm' : j % sz < zs.toArray.size := by simpa using hm
          simp [madeCells, hj, hzl, List.getElem?_eq_getElem hm]
        · have hml : (madeCells zs.toArray (n * sz)).toList.length = n * sz := by rw [Array.length_toList, size_madeCells]
          exact (List.getElem?_eq_none (by rw [hml]; omega)).trans (List.getElem?_eq_none (by rw [hlen]; omega)).symm
      have hs' := hs.newObj (.cells (madeCells zs.toArray (n * sz)) e) (o := .box ((List.replicate n (zs.map AV.v)).flatten)) ⟨_, e, heap_alloc_at _ _, by
        rw [hfl]
        have := rels_vs (C := C) (List.replicate n zs).flatten
        rwa [List.map_flatten, List.map_replicate] at this⟩
      exact hK _ _ (hr w.heap.size _ _ ⟨C, T, hs'.put ht (srel_v _)⟩)
def countT (P : Program) (f : Nat) : Prop := ∀ (args : Array Value) (w : World), (callFunc f args).run P w = ((Extern.BytealgCount.count args).run P w).andThen fun v w' => .ok (.value v) w'
def indexByteT (P : Program) (f : Nat) : Prop := ∀ (args : Array Value) (w : World), (callFunc f args).run P w = ((Extern.BytealgIndexByte.indexByte args).run P w).andThen fun v w' => .ok (.value v) w'
theorem run_loadU8 {l : List UInt8} {b off : Nat} (h : ∀ (k : Nat) (x : UInt8), l[k]? = some x → w.cell? ⟨b, off + k, none⟩ = some (.int .u8 x.toNat)) :
    (Extern.Bytes.loadBytes ⟨b, off, none⟩ l.length .empty).run P w = .ok ⟨l.toArray⟩ w := by
  have := Lib.run_loadBytesX (P := P) w (l.map fun x => (x.toNat : Int)) ⟨b, off, none⟩ .empty (fun j x hj => by
    rw [List.getElem?_map] at hj
    cases hk : l[j]? with
    | none => rw [hk] at hj; cases hj
    | some y => rw [hk] at hj; cases hj; rw [addr_add]; exact h j y hk)
  rw [List.length_map] at this
  rw [this]
  congr 1
  apply ByteArray.ext
  show (#[] : Array UInt8) ++ _ = l.toArray
  simp [Lib.bytesOf, Function.comp_def]
theorem r_extB {ent : Array Value → Sem Value} {x y : Operand} {f : Nat} {tys : Array TypeId} {sv : SV} {l : List UInt8} {c : UInt8} {res : Value} (hf : ∀ (args : Array Value) (w : World), (callFunc f args).run P w = ((ent args).run P w).andThen fun v w' => .ok (.value v) w') (hx : S.ev x = some sv) (hl : sv.av = .sl 1 (u8s l)) (hy : S.ev y = some (.a (.v (.int .u8 c.toNat))))
    (hrun : ∀ (w : World) (v : Value) (n : Nat), (Extern.Bytes.bytesOf v).run P w = .ok ⟨l.toArray⟩ w → (ent #[v, .int .u8 c.toNat]).run P w = .ok res w) (ht : Nat.blt t S.nt = true)
    (hr : AWL P w0 C0 ops rest Q (S.put t (.a (.v res)))) : AWL P w0 C0 ops (⟨some t, .call ⟨.value (.func f), #[x, y], tys⟩, ty, pos, aft, none⟩ :: rest) Q S :=
  awl_pure ht (fun C T a w hs => by
    have h := (hs.ev hx).av
    rw [hl] at h
    obtain ⟨A, cap, b, o, hv, hcap, hA, hR⟩ := rel_sl_inv h
    have hlen : (u8s l).length = l.length := by simp [u8s]
    have hb : (Extern.Bytes.bytesOf (a.eval x)).run P w = .ok ⟨l.toArray⟩ w := by
      rw [hv, hlen]
      by_cases h0 : l = []
      · subst h0
        cases A with
        | none => rfl
        | some ad => simp [Extern.Bytes.bytesOf, Extern.Bytes.loadBytes]; rfl
      · have hA' := hA (by intro h; apply h0; simpa [u8s] using h)
        subst hA'
        exact run_loadU8 (fun k x hk => by
          obtain ⟨u, hu1, hu2⟩ := hR.2 k [.v (.int .u8 x.toNat)] 0 (.v (.int .u8 x.toNat)) (by simp [u8s, hk]) rfl
          cases hu2
          have := (hs.com _ _ _ hu1).cell
          simpa using this)
    have hrun' := hrun w (a.eval x) 0 hb
    have hcall := hf #[a.eval x, a.eval y] w
    rw [hs.evv hy, hrun'] at hcall
    exact ⟨res, by simp [execOp, resolve, invoke, hs.evv hy, show a.eval (.func f) = .func (.func f) #[] #[] from rfl, Deferred.ofValue, hcall, Result.andThen], srel_v _⟩) hr
theorem r_countB {x y : Operand} {f : Nat} {tys : Array TypeId} {sv : SV} {l : List UInt8} {c : UInt8} (hf : countT P f) (hx : S.ev x = some sv) (hl : sv.av = .sl 1 (u8s l)) (hy : S.ev y = some (.a (.v (.int .u8 c.toNat)))) (ht : Nat.blt t S.nt = true)
    (hr : AWL P w0 C0 ops rest Q (S.put t (.a (.v (.int .i64 (l.count c : Nat)))))) : AWL P w0 C0 ops (⟨some t, .call ⟨.value (.func f), #[x, y], tys⟩, ty, pos, aft, none⟩ :: rest) Q S :=
  r_extB hf hx hl hy (fun w v n hb => by
    have hc : (c.toNat : Int).toNat.toUInt8 = c := by simp
    change Sem.run P (do
      let b ← Extern.Bytes.bytesOf v
      let c ← Extern.Bytes.asByte (.int .u8 c.toNat)
      pure (goInt (b.foldl (fun n x => if x == c then n + 1 else n) (0 : Nat)))) w = _
    simp only [Sem.run_bind, hb, Result.andThen, Extern.Bytes.asByte, Sem.run_pure, hc]
    rw [Lib.foldl_data, Lib.count_foldl]
    simp [goInt, Lib.countByte]) ht hr
theorem r_indexB {x y : Operand} {f : Nat} {tys : Array TypeId} {sv : SV} {l : List UInt8} {c : UInt8} (hf : indexByteT P f) (hx : S.ev x = some sv) (hl : sv.av = .sl 1 (u8s l)) (hy : S.ev y = some (.a (.v (.int .u8 c.toNat)))) (ht : Nat.blt t S.nt = true)
    (hr : AWL P w0 C0 ops rest Q (S.put t (.a (.v (.int .i64 (Lib.indexByte l c)))))) : AWL P w0 C0 ops (⟨some t, .call ⟨.value (.func f), #[x, y], tys⟩, ty, pos, aft, none⟩ :: rest) Q S :=
  r_extB hf hx hl hy (fun w v n hb => by
    have hc : (c.toNat : Int).toNat.toUInt8 = c := by simp
    have hs := Lib.run_indexByteString (P := P) ⟨l.toArray⟩ (c.toNat : Int) w
    rw [hc] at hs
    change Sem.run P (do
      let b ← Extern.Bytes.bytesOf v
      let c ← Extern.Bytes.asByte (.int .u8 c.toNat)
      match (List.range b.size).find? fun i => b[i]! == c with
      | some i => pure (goInt i)
      | none => pure (goInt (-1))) w = _
    change Sem.run P (do
      let b ← Extern.Bytes.bytesOf (.string ⟨l.toArray⟩)
      let c ← Extern.Bytes.asByte (.int .u8 c.toNat)
      match (List.range b.size).find? fun i => b[i]! == c with
      | some i => pure (goInt i)
      | none => pure (goInt (-1))) w = _ at hs
    have hb0 : (Extern.Bytes.bytesOf (.string ⟨l.toArray⟩)).run P w = .ok ⟨l.toArray⟩ w := rfl
    simp only [Sem.run_bind, hb0, Result.andThen] at hs
    simp only [Sem.run_bind, hb, Result.andThen]
    exact hs) ht hr
end Go.Proofs.YtcbhhjahjnlfhaaDoor.A
namespace Go.Proofs.YtcbhhjahjnlfhaaDoor.A
open Go Go.RowKit Go.Maps Go.Sort
set_option linter.unusedVariables false
set_option linter.unusedSimpArgs false
set_option linter.unusedSectionVars false
section
variable {P : Program} {w0 : Base} {C0 C : CS} {T : TS} {S S' : AState} {a : Act} {w : World} {ops : Array Oper} {rest : List Oper} {o : Oper} {Q : Exit → AState → Prop}
variable {t : Nat} {ty ty' : TypeId} {pos : String} {aft : Array Edge}
theorem r_minE {m : Int} {x y : Operand} {k : IntKind} {i j : Int} {ts : Array TypeId} (hx : S.ev x = some (.a (.v (.int k i)))) (hy : S.ev y = some (.a (.v (.int k j)))) (hm : min i j = m) (ht : Nat.blt t S.nt = true)
    (hr : AWL P w0 C0 ops rest Q (S.put t (.a (.v (.int k m))))) : AWL P w0 C0 ops (⟨some t, .call ⟨.builtin .min, #[x, y], ts⟩, ty, pos, aft, none⟩ :: rest) Q S := by
  subst hm; exact r_min hx hy ht hr
theorem r_sliceVx {st e : TypeId} {sz g off n cap lo m : Nat} {x y z : Operand} {k k' : IntKind} (hx : S.ev x = some (.a (.v (.slice (some ⟨g, off, none⟩) n cap)))) (hy : S.ev y = some (.a (.v (.int k (lo : Int))))) (hz : S.ev z = some (.a (.v (.int k' ((lo + m : Nat) : Int))))) (hst : sliceT P st = some e) (hsz : szT P e = some sz) (h1 : lo + m ≤ cap) (ht : Nat.blt t S.nt = true)
    (hr : AWL P w0 C0 ops rest Q (S.put t (.a (.v (.slice (some (if cap = lo then ⟨g, off, none⟩ else ⟨g, off + lo * sz, none⟩)) m (cap - lo)))))) : AWL P w0 C0 ops (⟨some t, .slice st x (some y) (some z) none, ty, pos, aft, none⟩ :: rest) Q S :=
  awl_pure ht (fun C T a w hs => by
    obtain ⟨hu', he⟩ := sliceT_el hst
    have hrun := (run_sliceAt_slice w st (.slice (some ⟨g, off, none⟩) n cap) _ _ _ hu').trans (run_slice_lh w st (some ⟨g, off, none⟩) n cap hu' k k' (lo : Int) ((lo + m : Nat) : Int) (by omega) (by omega) (by omega))
    rw [he, run_sz hsz] at hrun
    simp only [Result.andThen] at hrun
    have hv : sliced (some ⟨g, off, none⟩) (lo : Int).toNat (((lo + m : Nat) : Int)).toNat cap sz = .slice (some (if cap = lo then ⟨g, off, none⟩ else ⟨g, off + lo * sz, none⟩)) m (cap - lo) := by
      rw [Int.toNat_natCast, Int.toNat_natCast]
      unfold sliced
      split <;> simp [addr_add]
    rw [hv] at hrun
    have hz' := hs.evv hz
    generalize ((lo + m : Nat) : Int) = H at hz' hrun
    exact ⟨_, by simp [execOp, hs.evv hx, hs.evv hy, hz', hrun], srel_v _⟩) hr
theorem r_arrAtE {st e n : Nat} {x y : Operand} {k : IntKind} {i : Nat} {cs : List AV} {c : AV} (hx : S.ev x = some (.a (.cp cs))) (hy : S.ev y = some (.a (.v (.int k (i : Int))))) (hu : P.underlying st = some (.array n e)) (hsz : szT P e = some 1) (hi : i < n) (hc : cs[i]? = some c) (ht : Nat.blt t S.nt = true)
    (hr : AWL P w0 C0 ops rest Q (S.put t (.a (.cp (c :: cs.drop (i + 1)))))) : AWL P w0 C0 ops (⟨some t, .indexAddr st x y, ty, pos, aft, none⟩ :: rest) Q S := by
  have hil := (List.getElem?_eq_some_iff.1 hc).1
  have he : cs.drop i = c :: cs.drop (i + 1) := by rw [List.drop_eq_getElem_cons hil, (List.getElem?_eq_some_iff.1 hc).2]
  refine r_arrAtC hx hy hu hsz hi ht ?_
  rw [he]; exact hr
theorem awl_bufBoxL (i : Nat) {g cap sz e : Nat} {l : List (List AV)} {lst : List Oper} (hi : S.objs[i]? = some ⟨g, true, .buf sz l cap e⟩)
    (hr : ∀ ext : List AV, l.length ≤ cap → l.flatten.length + ext.length = cap * sz → AWL P w0 C0 ops lst Q ⟨S.nt, S.slots, S.objs.set i ⟨g, true, .box (l.flatten ++ ext)⟩⟩) : AWL P w0 C0 ops lst Q S := by
  rintro a w ⟨C, T, hs⟩
  obtain ⟨arr, g1, g2, g3, g4, vs, g5, g6, g7⟩ := (hs.objs _ (mem_of_get hi)).1
  have hvl : vs.length = l.length * sz := by rw [g5.1, flat_len g4]
  have hal : arr.toList.length = cap * sz := by simpa using g2
  have hle : l.length * sz ≤ cap * sz := Nat.mul_le_mul_right _ g3
  refine hr ((arr.toList.drop (l.length * sz)).map AV.v) g3 (by rw [flat_len g4, List.length_map, List.length_drop, hal]; omega) a w ⟨C, T, hs.setObj hi (w' := w) (Nat.le_refl _) rfl rfl rfl rfl (fun _ _ => rfl) ⟨arr, e, g1, ?_⟩⟩
  have h := g5.append (rels_vs (C := C) (arr.toList.drop (l.length * sz)))
  rw [← g7, List.take_append_drop] at h
  exact h
theorem r_indexAt {st e : TypeId} {sz g off n cap : Nat} {A : Addr} {x y : Operand} {k : IntKind} {i : Int} (hA : A = ⟨g, off, none⟩) (hx : S.ev x = some (.a (.v (.slice (some A) n cap)))) (hy : S.ev y = some (.a (.v (.int k i)))) (hst : sliceT P st = some e) (hsz : szT P e = some sz) (h0 : 0 ≤ i) (h1 : i < n) (ht : Nat.blt t S.nt = true)
    (hr : AWL P w0 C0 ops rest Q (S.put t (.a (.v (.pointer (some ⟨g, off + i.toNat * sz, none⟩)))))) : AWL P w0 C0 ops (⟨some t, .indexAddr st x y, ty, pos, aft, none⟩ :: rest) Q S := by
  subst hA; exact r_indexV hx hy hst hsz h0 h1 ht hr
theorem r_arrG {Cs : CS} (hcs : CsOk Cs w0 C0) {g : Nat} {st e : TypeId} {l : List UInt8} (hg : ∀ (k : Nat) (x : UInt8), l[k]? = some x → Cs g k = some (.int .u8 x.toNat)) (hu : P.underlying st = some (.array l.length e)) (hsz : szT P e = some 1) (ht : Nat.blt t S.nt = true)
    (hr : AWL P w0 C0 ops rest Q (S.put t (.a (.sl 1 (u8s l))))) : AWL P w0 C0 ops (⟨some t, .slice st (.global g) none none none, ty, pos, aft, none⟩ :: rest) Q S :=
  awl_pure ht (fun C T a w hs => by
    have hrun := run_arrPart (lo := none) (hi := none) hu hsz hs ⟨g, 0, none⟩ .none .none (Nat.zero_le _) (Nat.le_refl _)
    refine ⟨.slice (some ⟨g, 0, none⟩) l.length l.length, ?_, rel_sl_mk g 0 (by simp [u8s]) (Nat.le_refl _) (fun _ => rfl) ⟨fun c hc => by obtain ⟨x, _, rfl⟩ := List.mem_map.1 hc; rfl, fun i cs j c h1 h2 => ?_⟩⟩
    · have hev : a.eval (.global g) = .pointer (some ⟨g, 0, none⟩) := rfl
      have hv : sliced (some ⟨g, 0, none⟩) 0 l.length l.length 1 = .slice (some ⟨g, 0, none⟩) l.length l.length := by
        unfold sliced; split <;> simp [addr_add]
      rw [hv] at hrun
      simp only [Option.map_none] at hrun
      simp [execOp, hev, hrun]
    · rw [u8s, List.getElem?_map] at h1
      cases hi : l[i]? with
      | none => rw [hi] at h1; cases h1
      | some x =>
        rw [hi] at h1; cases h1
        have hj : j = 0 := by have := (List.getElem?_eq_some_iff.1 h2).1; simp at this; exact this
        subst hj; cases h2
        obtain ⟨k1, k2, k3⟩ := hcs g i _ (hg i x hi)
        refine ⟨_, ?_, .v _⟩
        rw [hs.old _ _ k2 k3]; simpa using k1) hr
end
abbrev Blk := List UInt8
def blkC (b : Blk) : List AV := (List.range 32).map fun i => AV.v (.int .u8 (b.getD i 0).toNat)
def blkA (b : Blk) : AV := .agg (blkC b)
def blksA (l : List Blk) : AV := .sl 32 (l.map blkC)
def bpart (b : Blk) (l h : Nat) : List UInt8 := (((List.range 32).map (b.getD · 0)).take h).drop l
def putAt (b : Blk) (c : Nat) (xs : List UInt8) : Blk := (List.range 32).map fun i => if c ≤ i ∧ i < c + xs.length then xs.getD (i - c) 0 else b.getD i 0
theorem arr_part (b : Blk) (l h : Nat) : (((blkC b).map fun c => [c]).take h).drop l = u8s (bpart b l h) := by
  simp [blkC, bpart, u8s, List.map_take, List.map_drop, Function.comp_def]
theorem bpart_len (b : Blk) {l h : Nat} (hh : h ≤ 32) : (bpart b l h).length = h - l := by
  simp [bpart]; omega
theorem bpart_get {b : Blk} {l h i : Nat} (hh : h ≤ 32) (hi : l + i < h) : (bpart b l h)[i]? = some (b.getD (l + i) 0) := by
  rw [bpart, List.getElem?_drop, List.getElem?_take, if_pos hi, List.getElem?_map, List.getElem?_range (by omega)]; rfl
theorem bpart_getD {b : Blk} {l h i : Nat} (hh : h ≤ 32) (hi : l + i < h) : (bpart b l h).getD i 0 = b.getD (l + i) 0 := by
  rw [List.getD_eq_getElem?_getD, bpart_get hh hi]; rfl
theorem bpart_step {b : Blk} {j : Nat} (h : j < 32) : bpart b 0 (j + 1) = bpart b 0 j ++ [b.getD j 0] := by
  simp only [bpart, List.drop_zero]
  rw [takeS (l := (List.range 32).map (b.getD · 0)) (k := j) (x := b.getD j 0) (by rw [List.getElem?_map, List.getElem?_range h]; rfl)]
theorem putAt_get {b : Blk} {c i : Nat} {xs : List UInt8} (hi : i < 32) : (putAt b c xs).getD i 0 = if c ≤ i ∧ i < c + xs.length then xs.getD (i - c) 0 else b.getD i 0 := by
  rw [putAt, List.getD_eq_getElem?_getD, List.getElem?_map, List.getElem?_range hi]; rfl
theorem blkC_ext {b b' : Blk} (h : ∀ i, i < 32 → b.getD i 0 = b'.getD i 0) : blkC b = blkC b' := by
  unfold blkC
  apply List.map_congr_left
  intro i hi
  rw [h i (List.mem_range.1 hi)]
theorem blkC_len (b : Blk) : (blkC b).length = 32 := rfl
theorem blkC_at (b : Blk) {i : Nat} (h : i < 32) : (blkC b)[i]? = some (.v (.int .u8 (b.getD i 0).toNat)) := by
  rw [blkC, List.getElem?_map, List.getElem?_range h]; rfl
def okCh (c : UInt8) : Bool := decide (c.toNat = 46 ∨ (97 ≤ c.toNat ∧ c.toNat ≤ 122) ∨ (48 ≤ c.toNat ∧ c.toNat ≤ 57))
def namedS (s : ByteArray) : Bool := s.data.toList.all okCh && (decide (1 ≤ s.size) && decide (s.size ≤ 12))
def rightS (f : File) : Bool := namedS f.name && decide (f.data.length ≤ 256)
def togetherS (l : List File) : Bool := l.all rightS && decide ((l.map (·.name)).Nodup)
def okFs (l : List File) : Bool := decide (l.length ≤ 8) && togetherS l
theorem ba_at {s : ByteArray} {i : Nat} {c : UInt8} (h : s.data.toList[i]? = some c) : s[i]? = some c := by
  have hi : i < s.size := by have := (List.getElem?_eq_some_iff.1 h).1; rwa [Array.length_toList] at this
  have h2 : s[i] = c := (List.getElem?_eq_some_iff.1 h).2
  rw [getElem?_pos s i hi, h2]
theorem ba_len (s : ByteArray) : s.data.toList.length = s.size := by rw [Array.length_toList]; rfl
theorem okCh_F {c : UInt8} (h : ¬ ((c.toNat : Int) = 46) ∧ ((c.toNat : Int) < 97 ∨ 122 < (c.toNat : Int)) ∧ ((c.toNat : Int) < 48 ∨ 57 < (c.toNat : Int))) : okCh c = false := decide_eq_false (by omega)
theorem okCh_T {c : UInt8} (h : (c.toNat : Int) = 46 ∨ (97 ≤ (c.toNat : Int) ∧ (c.toNat : Int) ≤ 122) ∨ (48 ≤ (c.toNat : Int) ∧ (c.toNat : Int) ≤ 57)) : okCh c = true := decide_eq_true (by omega)
theorem named_bad {s : ByteArray} {i : Nat} {c : UInt8} (h : s.data.toList[i]? = some c) (hc : okCh c = false) : namedS s = false := by
  have : s.data.toList.all okCh = false := by
    cases hb : s.data.toList.all okCh with
    | false => rfl
    | true => have := List.all_eq_true.1 hb c (List.mem_of_getElem? h); rw [hc] at this; cases this
  simp only [namedS, this, Bool.false_and]
theorem all_step {l : List UInt8} {i : Nat} {c : UInt8} (h : l[i]? = some c) (ha : (l.take i).all okCh = true) (hc : okCh c = true) : (l.take (i + 1)).all okCh = true := by
  rw [takeS h, List.all_append, ha]; simp [hc]
def HasN (m : List (ByteArray × Bool)) (l : List ByteArray) : Prop := ∀ s, (mget m s).getD false = true ↔ s ∈ l
theorem hasN_nil : HasN [] [] := fun s => by simp [mget]
theorem tog_set {m : List (ByteArray × Bool)} {l : List File} {k : Nat} {x : File} (hx : l[k]? = some x) (h : HasN m ((l.take k).map (·.name))) : HasN (mset m x.name true) ((l.take (k + 1)).map (·.name)) := fun s => by
  rw [takeS hx, List.map_append, mget_mset, List.mem_append, ← h s]
  by_cases hs : s = x.name
  · subst hs; simp
  · have : ¬ x.name = s := fun e => hs e.symm
    simp [hs, this]
theorem tog_all {l : List File} {k : Nat} {x : File} (hx : l[k]? = some x) (ha : (l.take k).all rightS = true) (h : rightS x = true) : (l.take (k + 1)).all rightS = true := by
  rw [takeS hx, List.all_append, ha]; simp [h]
theorem tog_nd {l : List File} {k : Nat} {x : File} (hx : l[k]? = some x) (hn : ((l.take k).map (·.name)).Nodup) (h : x.name ∉ (l.take k).map (·.name)) : ((l.take (k + 1)).map (·.name)).Nodup := by
  rw [takeS hx, List.map_append, List.nodup_append]
  exact ⟨hn, by simp, fun a ha b hb e => by simp at hb; subst hb e; exact h ha⟩
theorem tog_bad {l : List File} {k : Nat} {x : File} (hx : l[k]? = some x) (h : rightS x = false) : togetherS l = false := by
  have : l.all rightS = false := by
    cases hb : l.all rightS with
    | false => rfl
    | true => have := List.all_eq_true.1 hb x (List.mem_of_getElem? hx); rw [h] at this; cases this
  simp only [togetherS, this, Bool.false_and]
theorem tog_dup {l : List File} {k : Nat} {x : File} (hx : l[k]? = some x) (h : x.name ∈ (l.take k).map (·.name)) : togetherS l = false := by
  have : ¬ (l.map (·.name)).Nodup := fun hn => by
    have e : l = l.take k ++ x :: l.drop (k + 1) := by
      have hk := (List.getElem?_eq_some_iff.1 hx).1
      have h3 : l.drop k = x :: l.drop (k + 1) := by rw [List.drop_eq_getElem_cons hk, (List.getElem?_eq_some_iff.1 hx).2]
      rw [← h3, List.take_append_drop]
    rw [e, List.map_append, List.nodup_append] at hn
    exact hn.2.2 _ h x.name (by simp) rfl
  simp only [togetherS, decide_eq_false this, Bool.and_false]
theorem tog_good {l : List File} (ha : l.all rightS = true) (hn : (l.map (·.name)).Nodup) : togetherS l = true := by
  simp only [togetherS, ha, decide_eq_true hn]; rfl
def manyF (n : Nat) : Nat := (n + 31) / 32
def stepS (n : Nat) (x : UInt8) : Nat := (31 * n + x.toNat) % 65536
def rowS (n : Nat) (b : Blk) : Nat := (bpart b 0 32).foldl stepS n
def sumF (l : List Blk) : Nat := l.foldl rowS 1
theorem rowS_def (n : Nat) (b : Blk) : rowS n b = (bpart b 0 32).foldl stepS n := rfl
theorem sum_step {l : List Blk} {k acc : Nat} {x : Blk} (hx : l[k]? = some x) (h : rowS (sumF (l.take k)) x = acc) : sumF (l.take (k + 1)) = acc := by
  rw [takeS hx, sumF, List.foldl_append, List.foldl_cons, List.foldl_nil]; rw [sumF] at h; exact h
theorem stepS_lt (n : Nat) (x : UInt8) : stepS n x < 65536 := Nat.mod_lt _ (by decide)
theorem foldS_lt : ∀ (l : List UInt8) (n : Nat), n < 65536 → l.foldl stepS n < 65536
  | [], n, h => h
  | x :: r, n, h => foldS_lt r _ (stepS_lt n x)
theorem sumFold_lt : ∀ (l : List Blk) (n : Nat), n < 65536 → l.foldl rowS n < 65536
  | [], n, h => h
  | b :: r, n, h => sumFold_lt r _ (foldS_lt _ _ h)
theorem sum_lt (l : List Blk) : sumF l < 65536 := sumFold_lt l 1 (by decide)
def be2 (n : Nat) : List UInt8 := [(n / 256).toUInt8, n.toUInt8]
theorem be2_len (n : Nat) : (be2 n).length = 2 := rfl
def g2 (x y : UInt8) : Nat := x.toNat * 256 + y.toNat
theorem g2_lt (x y : UInt8) : g2 x y < 65536 := by have := x.toNat_lt; have := y.toNat_lt; unfold g2; omega
theorem g2_be2 {n : Nat} (h : n < 65536) : g2 (n / 256).toUInt8 n.toUInt8 = n := by
  unfold g2
  have h1 : (n / 256).toUInt8.toNat = n / 256 := by simp; omega
  have h2 : n.toUInt8.toNat = n % 256 := by simp
  rw [h1, h2]; omega
def MG : CS := fun b o => if b = 0 then ([69, 82, 69, 87, 1] : List UInt8)[o]?.map (fun x => Value.int .u8 x.toNat) else none
def magicL : List UInt8 := [69, 82, 69, 87, 1]
theorem mg_at (k : Nat) (x : UInt8) (h : magicL[k]? = some x) : MG 0 k = some (.int .u8 x.toNat) := by
  have : ([69, 82, 69, 87, 1] : List UInt8)[k]? = some x := h
  simp only [MG, if_true, this, Option.map_some]
def tabF (f : File) (at_ : Nat) : Blk :=
  let b := putAt (putAt [] 0 f.name.data.toList) 12 (be2 f.data.length)
  if f.data = [] then b else putAt b 14 (be2 at_)
def tabs : List File → Nat → List Blk
  | [], _ => []
  | f :: r, a => tabF f a :: tabs r (a + manyF f.data.length)
def cut32 : Nat → List UInt8 → List Blk
  | 0, _ => []
  | n + 1, l => l.take 32 :: cut32 n (l.drop 32)
def datF (f : File) : List Blk := cut32 (manyF f.data.length) f.data
def headF (n : Nat) (t : List Blk) : Blk := putAt (putAt (putAt [] 0 magicL) 5 [n.toUInt8]) 6 (be2 (sumF t))
def diskF (l : List File) : List Blk := headF l.length (tabs l (1 + l.length)) :: tabs l (1 + l.length) ++ l.flatMap datF
theorem tabs_len : ∀ (l : List File) (a : Nat), (tabs l a).length = l.length
  | [], _ => rfl
  | f :: r, a => by simp [tabs, tabs_len r]
theorem cut32_len : ∀ (n : Nat) (l : List UInt8), (cut32 n l).length = n
  | 0, _ => rfl
  | n + 1, l => by simp [cut32, cut32_len n]
def putC (n i : Nat) : List AV := ((be2 n).take i ++ List.replicate (2 - i) 0).map fun (x : UInt8) => AV.v (.int .u8 x.toNat)
theorem put_end (n : Nat) : putC n 2 = (u8s (be2 n)).flatten ++ [] := rfl
theorem hi_byte (n : Nat) (h : n < 65536) : IntKind.u8.wrap ((n / 256 : Nat) : Int) = (((n / 256).toUInt8).toNat : Int) := by
  have h1 : (n / 256).toUInt8.toNat = n / 256 := by simp; omega
  rw [h1, IntKind.wrap_u8]; omega
theorem lo_byte (n : Nat) (h : n < 65536) : IntKind.u8.wrap (n : Int) = ((n.toUInt8).toNat : Int) := by
  have h1 : n.toUInt8.toNat = n % 256 := by simp
  rw [h1, IntKind.wrap_u8]; omega
theorem shr0 (n : Nat) : ((n : Int)).fdiv (2 ^ (min (Int.toNat 0) IntKind.u64.bits)) = (n : Int) := by
  show (n : Int).fdiv 1 = _
  rw [Int.fdiv_eq_ediv_of_nonneg _ (by decide)]; omega
theorem shr8 (n : Nat) : ((n : Int)).fdiv (2 ^ (min (Int.toNat 8) IntKind.u64.bits)) = ((n / 256 : Nat) : Int) := by
  show (n : Int).fdiv 256 = _
  rw [Int.fdiv_eq_ediv_of_nonneg _ (by decide)]; omega
theorem u8sL (l : List UInt8) : (u8s l).length = l.length := by simp [u8s]
def noughtS (l : List UInt8) : Bool := l.all (· == 0)
theorem nought_count (l : List UInt8) : ((l.count 0 : Nat) == l.length) = noughtS l := by
  unfold noughtS
  cases h : l.all (· == 0) with
  | true =>
    have : l.count 0 = l.length := List.count_eq_length.2 (fun b hb => by have := List.all_eq_true.1 h b hb; simpa using (eq_of_beq this).symm)
    simp [this]
  | false =>
    have hne : l.count 0 ≠ l.length := fun e => by
      have h2 := List.count_eq_length.1 e
      have : l.all (· == 0) = true := List.all_eq_true.2 fun x hx => by rw [← h2 x hx]; rfl
      rw [this] at h; cases h
    simpa using hne
end Go.Proofs.YtcbhhjahjnlfhaaDoor.A

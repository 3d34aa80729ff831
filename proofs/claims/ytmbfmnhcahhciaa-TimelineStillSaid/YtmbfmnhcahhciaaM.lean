/- The rules of a walk over abstract states: the sorted keys of a map. -/
import Derived.Test.YtmbfmnhcahhciaaL
import Derived.Shelf.SlIter.Nil
namespace Go.Proofs.Ytmbfmnhcahhciaa.A
open Go Go.RowKit Go.Maps Go.Sort
open Go.WideElems (Fit rd rg rd_mk)
set_option linter.unusedVariables false
set_option linter.unusedSimpArgs false
set_option linter.unusedSectionVars false
variable {P : Program} {C : CS} {w : World}

def strsA (l : List ByteArray) : AV := .sl 1 (l.map fun s => [.v (.string s)])
def sortB (l : List ByteArray) : List ByteArray := ((l.map (·.data.toList)).mergeSort (fun x y => decide (x ≤ y))).map fun x => ⟨x.toArray⟩
theorem string_inj {s t : ByteArray} (h : Value.string s = Value.string t) : s = t := by cases h; rfl
theorem map_owned {k : TypeId} (hk : P.underlying k = some .string) {b : Nat} {es : List (Value × AV)} {ss : List ByteArray} (hes : es.map (·.1) = ss.map Value.string) (hnd : ss.Nodup) (hsz : ∀ s ∈ ss, s.size ≤ maxLen) (hlen : es.length ≤ maxLen)
    (h : ObjRel C b (.map es) w) : ∃ D0 : DataW Unit, w.ownsMap P k (fun _ => some (.nil, [])) b es.length D0 ∧ (strKeys D0).Perm (ss.map (·.data.toList)) ∧ Maps.size D0 = es.length := by
  obtain ⟨ents, clock, h1, h2, h3, h4, h5⟩ := h
  have hel : ents.size = es.length := by have := congrArg List.length h2; simpa using this
  have hkeys : ents.toList.map (·.key) = ss.map Value.string := h2.trans hes
  have hrd : ∀ x ∈ ents.toList, ∃ s : ByteArray, s ∈ ss ∧ x.key = .string s ∧ rd P k (fun _ => some ((.nil : DataW Unit), [])) x = some (.string s.data.toList, .nil) := by
    intro x hx
    have : x.key ∈ ss.map Value.string := by rw [← hkeys]; exact List.mem_map.2 ⟨x, hx, rfl⟩
    obtain ⟨s, hs, he⟩ := List.mem_map.1 this
    refine ⟨s, hs, he.symm, ?_⟩
    obtain ⟨key, val, born⟩ := x
    simp only at he
    subst he
    exact rd_mk (R := fun _ => some ((.nil : DataW Unit), [])) (yv := (.nil, [])) (Go.WideMaps.keyOf_string_mk hk (hsz s hs)) rfl
  refine ⟨_, ⟨ents, clock, h1, ⟨by omega, ⟨h5, ?_, ?_⟩, fun x hx => let ⟨s, _, _, h⟩ := hrd x hx; ⟨_, h⟩⟩, by omega, rfl⟩, ?_, ?_⟩
  · exact h4.imp (fun h => Nat.ne_of_lt h)
  · rw [hkeys]
    exact List.pairwise_map.2 (hnd.imp (fun hne e => hne (string_inj e)))
  · have e : (ents.toList.map (rg P k (fun _ => some ((.nil : DataW Unit), [])))).map (fun p => strOf p.1) = ss.map (·.data.toList) := by
      rw [List.map_map]
      have : ents.toList.map ((fun p => strOf p.1) ∘ rg P k (fun _ => some ((.nil : DataW Unit), []))) = ents.toList.map ((fun v : Value => match v with | .string s => s.data.toList | _ => []) ∘ (·.key)) := by
        refine List.map_congr_left (fun x hx => ?_)
        obtain ⟨s, _, h1, h2⟩ := hrd x hx
        simp [rg, h2, h1, strOf]
      rw [this, ← List.map_map, hkeys, List.map_map]
      rfl
    unfold strKeys
    rw [← e]
    exact (Go.WideShapes.sorted_perm _).map _
  · show (List.foldr DataW.insert [] _).length = _
    rw [length_sorted]; simp [hel]

/-- what maps.Keys gives, as the kit says it -/
def KeysAs (P : Program) (f it mt : Nat) : Prop := ∀ (mb : Option Nat) (W : World), Calls P f #[.map mb] W fun e w' => e = .returned (.func (.func it) #[] #[.pointer (some ⟨W.heap.size, 0, none⟩)]) ∧ w' = W.alloc (.cells #[.map mb] mt)
/-- what slices.Sorted gives of it -/
def SortsIt (P : Program) (f it k : Nat) : Prop := ∀ (g b nn : Nat) (D0 : DataW Unit) (R : Value → Option (DataW Unit × List MemPlace)) (w : World), g < w.heap.size → w.cell? ⟨g, 0, none⟩ = some (.map (some b)) → w.ownsMap P k R b nn D0 → Maps.size D0 ≤ maxLen → Maps.size D0 * 16 ≤ 140737488355328 →
  Calls P f #[.func (.func it) #[] #[.pointer (some ⟨g, 0, none⟩)]] w fun e w' => ∃ (v : Value) (ss : List (List UInt8)), e = .returned v ∧ ss.Perm (strKeys D0) ∧
    w'.ownsRow w.heap.size k 1 v ss.length ((ss.mergeSort (fun x y => decide (x ≤ y))).map encStr) ∧ (v = .slice none 0 0 ↔ ss = []) ∧ Below w.heap.size w w'

theorem ac_keys {f it mt : Nat} (hf : KeysAs P f it mt) {mb : Option Nat} : AC P f [.v (.map mb)] [] (fun r n => ∃ g, r = .fn it [.v (.pointer (some ⟨g, 0, none⟩))] ∧ n = [⟨g, true, .box [.v (.map mb)]⟩]) := by
  intro C w vals hcom hrels hobjs
  obtain ⟨v0, vs0, hv, hr0, hr1⟩ := hrels.cons_inv
  have hv0 : vs0 = [] := hr1.nil_inv
  subst hv0
  cases hr0
  obtain rfl : vals = #[.map mb] := by apply Array.ext'; simpa using hv
  refine (hf mb w).mono ?_
  rintro e w' ⟨rfl, rfl⟩
  refine ⟨_, C, _, _, rfl, ⟨w.heap.size, rfl, rfl⟩, (Below.refl _ _).alloc (Nat.le_refl _) _, fun _ _ _ => rfl, ⟨fun b o v hc => ?_, hcom.2⟩, rel_fn.2 (Rels.cons (.v _) Rels.nil), ⟨fun e he => ?_, by simp⟩, fun e he => ?_⟩
  · have hlt : b < w.heap.size := by have := World.block_lt_of_cell? w _ (hcom.1 _ _ _ hc); simpa using this
    rw [← hcom.1 b o v hc]; exact World.cell?_of_block (a := ⟨b, o, none⟩) (Below.heap_alloc _ _ _ hlt)
  · obtain rfl : e = ⟨w.heap.size, true, .box [.v (.map mb)]⟩ := by simpa using he
    refine ⟨⟨_, mt, heap_alloc_at _ _, Rels.cons (.v _) Rels.nil⟩, fun o => ?_⟩
    cases hc : C w.heap.size o with
    | none => rfl
    | some v => have := World.block_lt_of_cell? w _ (hcom.1 _ _ _ hc); simp at this
  · obtain rfl : e = ⟨w.heap.size, true, .box [.v (.map mb)]⟩ := by simpa using he
    exact Nat.le_refl _

theorem ac_sorted {f it k : Nat} (hf : SortsIt P f it k) (hk : P.underlying k = some .string) {g b : Nat} {rg rw' : Bool} {es : List (Value × AV)} {ss : List ByteArray} (hes : es.map (·.1) = ss.map Value.string) (hnd : ss.Nodup) (hsz : ∀ s ∈ ss, s.size ≤ maxLen) (hlen : es.length ≤ 1000000) :
    AC P f [.fn it [.v (.pointer (some ⟨g, 0, none⟩))]] [⟨g, rg, .box [.v (.map (some b))]⟩, ⟨b, rw', .map es⟩] (fun r n => n = [] ∧ r = strsA (sortB ss)) := by
  intro C w vals hcom hrels hobjs
  obtain ⟨v0, vs0, hv, hr0, hr1⟩ := hrels.cons_inv
  have hv0 : vs0 = [] := hr1.nil_inv
  subst hv0
  obtain ⟨arr, rfl⟩ : ∃ arr, v0 = .func (.func it) #[] arr := by cases hr0; exact ⟨_, rfl⟩
  obtain ⟨u, us, hu, hu1, hu2⟩ := (rel_fn.1 hr0).cons_inv
  cases hu1
  have hus := hu2.nil_inv
  subst hus
  obtain rfl : arr = #[.pointer (some ⟨g, 0, none⟩)] := by apply Array.ext'; simpa using hu
  obtain rfl : vals = #[.func (.func it) #[] #[.pointer (some ⟨g, 0, none⟩)]] := by apply Array.ext'; simpa using hv
  obtain ⟨barr, bt, hbg, hbr⟩ : ObjRel C g (.box [.v (.map (some b))]) w := (hobjs.1 ⟨g, rg, .box [.v (.map (some b))]⟩ (by simp)).1
  have hcell : w.cell? ⟨g, 0, none⟩ = some (.map (some b)) := by
    obtain ⟨x, xs, hx, hx1, hx2⟩ := hbr.cons_inv
    cases hx1
    rw [cell_of_row w g 0 barr bt (0, 0) hbg]
    have := congrArg (·[0]?) hx
    simpa using this
  obtain ⟨D0, h1, h2, h3⟩ := map_owned (C := C) hk hes hnd hsz (by unfold maxLen; omega) (hobjs.1 ⟨b, rw', .map es⟩ (by simp)).1
  refine (hf g b _ D0 _ w (Array.getElem?_eq_some_iff.1 hbg).1 hcell h1 (by rw [h3]; unfold maxLen; omega) (by rw [h3]; omega)).mono ?_
  rintro e w' ⟨v, ss', rfl, hp, ⟨hl, hrow⟩, hnil, hb⟩
  have hsort : (ss'.mergeSort (fun x y => decide (x ≤ y))) = ((ss.map (·.data.toList)).mergeSort (fun x y => decide (x ≤ y))) := mergeSort_of_perm (hp.trans h2)
  rw [hsort] at hrow hl
  have hlb : ∀ b o v, C b o = some v → b < w.heap.size := fun b o v hc => by have := World.block_lt_of_cell? w _ (hcom.1 _ _ _ hc); simpa using this
  have hcom' : ∀ b o v, C b o = some v → w'.cell? ⟨b, o, none⟩ = some v := fun b o v hc => by
    rw [← hcom.1 b o v hc]; exact World.cell?_of_block (a := ⟨b, o, none⟩) (hb.block b (hlb _ _ _ hc))
  have hlen' : (sortB ss).length = ss'.length := by
    unfold sortB; rw [List.length_map, ← hsort, List.length_mergeSort]
  rcases hrow with ⟨rfl, hn⟩ | ⟨g, cap, cur, rfl, hg, hgb, hcap, _, hcs, htk⟩
  · have hz : sortB ss = [] := List.eq_nil_of_length_eq_zero (by omega)
    refine ⟨_, C, _, [], rfl, ⟨rfl, rfl⟩, hb, fun _ _ _ => rfl, ⟨hcom', hcom.2⟩, ?_, ⟨by simp, by simp⟩, by simp⟩
    rw [hz]
    exact rel_sl_mk 0 0 rfl (Nat.le_refl _) (fun e => absurd rfl e) ⟨fun _ h => by simp at h, fun i cs j c h => by simp at h⟩
  · refine ⟨_, C.add g 0 (cur.toList.take (ss'.length * 1)), _, [], rfl, ⟨rfl, rfl⟩, hb, fun b' o hb' => CS.add_other (by omega), ⟨fun b' o v hc => ?_, fun b' o v hc => ?_⟩, ?_, ⟨by simp, by simp⟩, by simp⟩
    · rcases CS.add_cases hc with ⟨rfl, j, rfl, hj⟩ | hc'
      · rw [cell_of_row w' b' _ cur k (0, 0) hgb, Nat.zero_add]
        rw [List.getElem?_take] at hj
        split at hj
        · simpa using hj
        · cases hj
      · exact hcom' _ _ _ hc'
    · rcases CS.add_cases hc with ⟨rfl, j, rfl, hj⟩ | hc'
      · rw [htk] at hj
        obtain ⟨s, _, rfl⟩ := List.mem_map.1 (List.mem_of_getElem? hj)
        rfl
      · exact hcom.2 _ _ _ hc'
    · unfold strsA
      refine rel_sl_mk g 0 (by simp [hlen']) (by simpa [hlen'] using hcap) (fun _ => rfl) ⟨fun cs hcs => ?_, fun i cs j c h1 h2 => ?_⟩
      · obtain ⟨s, _, rfl⟩ := List.mem_map.1 hcs; rfl
      · rw [List.getElem?_map] at h1
        cases hi : (sortB ss)[i]? with
        | none => simp [hi] at h1
        | some s =>
          simp [hi] at h1
          subst h1
          cases j with
          | succ j => simp at h2
          | zero =>
            simp at h2; subst h2
            refine ⟨.string s, ?_, .v _⟩
            have : (cur.toList.take (ss'.length * 1))[i]? = some (.string s) := by
              rw [htk]
              unfold sortB at hi
              rw [List.getElem?_map] at hi ⊢
              cases hq : (List.mergeSort (List.map (fun x : ByteArray => x.data.toList) ss) fun x y => decide (x ≤ y))[i]? with
              | none => simp [hq] at hi
              | some q => simp [hq] at hi ⊢; subst hi; rfl
            have := CS.add_at (C := C) (b := g) (o := 0) this
            simpa using this
end Go.Proofs.Ytmbfmnhcahhciaa.A

/- The rules of a walk over abstract states: slices.SortFunc. -/
import Derived.Test.YtmbfmnhcahhciaaV
import Derived.Shelf.SlSortCmp.NoneTotal
namespace Go.Proofs.Ytmbfmnhcahhciaa.A
open Go Go.RowKit Go.Sort Go.Shelf
set_option linter.unusedVariables false
set_option linter.unusedSimpArgs false
set_option linter.unusedSectionVars false
variable {P : Program} {w0 : Base} {C0 C : CS} {T : TS} {S S' : AState} {a : Act} {w : World} {ops : Array Oper} {rest : List Oper} {o : Oper} {Q : Exit → AState → Prop}
variable {t : Nat} {ty ty' : TypeId} {pos : String} {aft : Array Edge}

/-- what the kit says of slices.SortFunc at elements of k cells -/
def SortFuncK (P : Program) (f k : Nat) : Prop := ∀ (α : Type) [Inhabited α] (enc : α → List Value) (hk : ∀ x, (enc x).length = k) (h1 : ∀ x, ∀ v ∈ enc x, v.oneCell' = true) (cf : α → α → Int) (hO : SWO (ltOf cf)) (g : Nat) (cb : Array Value) (blk off cap : Nat) (d : Array α) (w : World)
    (eg : ∀ args w, (callFunc g args).run P w = .ok (.enter g args) w) (hcmp : CmpLays P g cb enc k cf blk off d.size w) (hH : HoldsK enc k w blk off d) (hblk : blk < w.heap.size) (hsz : d.size < 4611686018427387904) (hT : ∀ x y, (ltOf cf) x y = false → (ltOf cf) y x = false → x = y),
    Calls P f #[.slice (some ⟨blk, off, none⟩) d.size cap, .func (.func g) #[] cb] w fun e w' =>
      e = .returned (.tuple #[]) ∧ ∃ n os, w' = sortWorldK enc k w blk off n (d.toList.mergeSort fun x y => !(ltOf cf) y x).toArray os
def SortFunc0 (P : Program) (f : Nat) : Prop := ∀ (p : Option Addr) (cap : Nat) (fv : Value) (w : World), Calls P f #[.slice p 0 cap, fv] w fun e w' => e = .returned (.tuple #[]) ∧ w' = w

theorem heap_onCells {w : World} {blk k : Nat} {f : Array Value → Array Value} (h : k ≠ blk) : (mapBlock w blk f).heap[k]? = w.heap[k]? := by
  simp only [mapBlock, Array.getElem?_modify]
  rw [if_neg (fun e => h e.symm)]
theorem grow_heap {w : World} {os : Array Obj} {k : Nat} (h : k < w.heap.size) : (grow w os).heap[k]? = w.heap[k]? := by
  simp [grow, Array.getElem?_append_left h]
theorem sw_other {α : Type} [Inhabited α] {enc : α → List Value} {k : Nat} {w : World} {blk n : Nat} {d : Array α} {os : Array Obj} {b : Nat} (hb : b < w.heap.size) (hne : b ≠ blk) : (sortWorldK enc k w blk 0 n d os).heap[b]? = w.heap[b]? := by
  unfold sortWorldK putRowK putRow
  rw [grow_heap (by simp [mapBlock, ahead]; exact hb), heap_onCells hne]
  rfl
theorem sw_size {α : Type} [Inhabited α] {enc : α → List Value} {k : Nat} {w : World} {blk n : Nat} {d : Array α} {os : Array Obj} : (sortWorldK enc k w blk 0 n d os).heap.size = w.heap.size + os.size := by
  simp [sortWorldK, putRowK, putRow, mapBlock, grow, ahead]
theorem sw_row {α : Type} [Inhabited α] {enc : α → List Value} {k : Nat} {w : World} {blk n : Nat} {d : Array α} {os : Array Obj} {arr : Array Value} {e : TypeId} (hb : w.heap[blk]? = some (.cells arr e (0, 0))) (hd : d.size * k ≤ arr.size) :
    ∃ arr', (sortWorldK enc k w blk 0 n d os).heap[blk]? = some (.cells arr' e (0, 0)) ∧ arr'.size = arr.size ∧ arr'.toList.take (d.size * k) = (flatK enc k d).toList := by
  have hlt : blk < w.heap.size := (Array.getElem?_eq_some_iff.1 hb).1
  refine ⟨putCells id 0 (flatK enc k d) arr, ?_, by simp [putCells], ?_⟩
  · unfold sortWorldK putRowK putRow
    rw [grow_heap (by simp [mapBlock, ahead]; exact hlt)]
    simp only [mapBlock, Array.getElem?_modify, if_true]
    have : (Go.Sort.ahead w n).heap[blk]? = some (Obj.cells arr e (0, 0)) := hb
    rw [this]
    rfl
  · apply List.ext_getElem?
    intro j
    rw [List.getElem?_take]
    split
    · rename_i hj
      have hja : j < arr.size := by omega
      have hjf : j < (flatK enc k d).size := by simpa using hj
      simp only [putCells, Array.getElem?_toList, Array.getElem?_mapIdx, Array.getElem?_eq_getElem hja, Option.map_some, Nat.zero_le, true_and, Nat.zero_add, hjf, if_true, Nat.sub_zero, id_eq]
      rw [getElem!_pos (flatK enc k d) j hjf, Array.getElem?_eq_getElem hjf]
    · rename_i hj
      rw [List.getElem?_eq_none]; simpa using hj

theorem flatK_list {α : Type} [Inhabited α] (enc : α → List Value) (k : Nat) (hk : ∀ x, (enc x).length = k) (d : Array α) : (flatK enc k d).toList = (d.toList.map enc).flatten := by
  apply List.ext_getElem?
  intro j
  by_cases hj : j < d.size * k
  · have k0 : 0 < k := by rcases Nat.eq_zero_or_pos k with h | h; · subst h; simp at hj
                          · exact h
    have hq : j / k < d.size := Nat.div_lt_of_lt_mul (by rwa [Nat.mul_comm])
    have hr : j % k < k := Nat.mod_lt _ k0
    have hjf : j < (flatK enc k d).size := by simpa using hj
    rw [Array.getElem?_toList, Array.getElem?_eq_getElem hjf, ← getElem!_pos (flatK enc k d) j hjf, get_flatK enc k d j hj]
    have hg : ∀ (l : List (List Value)), (∀ x ∈ l, x.length = k) → ∀ q r c cs, l[q]? = some cs → cs[r]? = some c → l.flatten[q * k + r]? = some c := by
      intro l
      induction l with
      | nil => intro _ q r c cs h; simp at h
      | cons x l ih =>
        intro hl q r c cs h1 h2
        have hx := hl x (by simp)
        rw [List.flatten_cons]
        cases q with
        | zero =>
          simp at h1; subst h1
          rw [List.getElem?_append_left (by have := (List.getElem?_eq_some_iff.1 h2).1; omega)]; simpa using h2
        | succ q =>
          rw [List.getElem?_append_right (by rw [hx, Nat.add_mul]; omega)]
          have := ih (fun y hy => hl y (List.mem_cons_of_mem _ hy)) q r c cs (by simpa using h1) h2
          rw [← this]; congr 1; rw [hx, Nat.add_mul]; omega
    have h1 : (d.toList.map enc)[j / k]? = some (enc d[j / k]!) := by
      rw [List.getElem?_map, Array.getElem?_toList, Array.getElem?_eq_getElem hq, getElem!_pos d _ hq]; rfl
    have h2 : (enc d[j / k]!)[j % k]? = some (enc d[j / k]!)[j % k]! := by
      have : j % k < (enc d[j / k]!).length := by rw [hk]; exact hr
      rw [List.getElem?_eq_getElem this, List.getElem!_eq_getElem?_getD, List.getElem?_eq_getElem this]; rfl
    have := hg (d.toList.map enc) (fun x hx => by obtain ⟨y, _, rfl⟩ := List.mem_map.1 hx; exact hk y) _ _ _ _ h1 h2
    rw [show j / k * k + j % k = j from by rw [Nat.mul_comm]; exact Nat.div_add_mod j k] at this
    exact this.symm
  · have hl : (d.toList.map enc).flatten.length = d.size * k := by
      have : ∀ (l : List α), (l.map enc).flatten.length = l.length * k := by
        intro l
        induction l with
        | nil => simp
        | cons x l ih => simp only [List.map_cons, List.flatten_cons, List.length_append, hk, ih, List.length_cons, Nat.add_mul]; omega
      rw [this]; simp
    rw [List.getElem?_eq_none (by simpa using hj), List.getElem?_eq_none (by omega)]

theorem below_grow {w w' : World} (h : Below w.heap.size w w') (hd : w.drawn ≤ w'.drawn) : ∃ q os', w' = grow (w.drewN q) os' := by
  refine ⟨w'.drawn - w.drawn, w'.heap.extract w.heap.size w'.heap.size, ?_⟩
  obtain ⟨heap, tape, drawn, os, output⟩ := w
  obtain ⟨heap', tape', drawn', os', output'⟩ := w'
  obtain ⟨h1, h2, h3, h4, h5⟩ := h
  simp only at *
  subst h1 h2 h3
  simp only [grow, World.drewN]
  congr 1
  · apply Array.ext_getElem?
    intro k
    by_cases hk : k < heap.size
    · rw [Array.getElem?_append_left hk]; exact h5 k hk
    · rw [Array.getElem?_append_right (by omega), Array.getElem?_extract]
      split
      · congr 1; omega
      · rw [Array.getElem?_eq_none (by omega)]
  · omega

/-- slices.SortFunc, a closure that captures nothing for its order -/
theorem aw_sortFunc {f k cmp : Nat} {α : Type} [Inhabited α] {encA : α → List AV} {enc : α → List Value} (cf : α → α → Int) (hs : SortFuncK P f k) (h0 : SortFunc0 P f) (hen : entersT P cmp) (hv : ∀ x, AreVals (encA x) (enc x)) (hk : ∀ x, (enc x).length = k) (h1 : ∀ x, ∀ v ∈ enc x, v.oneCell' = true)
    (hO : SWO (ltOf cf)) (hT : ∀ x y, (ltOf cf) x y = false → (ltOf cf) y x = false → x = y) (hcmp : ∀ x y, ACq P cmp [.agg (encA x), .agg (encA y)] [] (fun r n => n = [] ∧ r = .v (.int .i64 (cf x y))))
    {g cap cap' e n : Nat} {fl : Bool} {l : List α} (hn : n = l.length) (hl : l.length < 4611686018427387904) :
    AW P f [.v (.slice (some ⟨g, 0, none⟩) n cap'), .fn cmp []] [] [⟨g, fl, .buf k (l.map encA) cap e⟩] (fun r nobjs => r = .tup [] ∧ nobjs = [⟨g, true, .buf k ((l.mergeSort fun x y => !(ltOf cf) y x).map encA) cap e⟩]) := by
  intro C w vals hcom hrels hobjs
  subst hn
  obtain ⟨v0, vs0, hvv, hr0, hr1⟩ := hrels.cons_inv
  obtain ⟨v1, vs1, rfl, hr2, hr3⟩ := hr1.cons_inv
  clear hr1
  obtain rfl := hr3.nil_inv
  cases hr0
  obtain ⟨arr1, rfl⟩ : ∃ arr, v1 = .func (.func cmp) #[] arr := by cases hr2; exact ⟨_, rfl⟩
  have ha := (rel_fn.1 hr2).nil_inv
  obtain rfl : arr1 = #[] := by apply Array.ext'; simpa using ha
  obtain rfl : vals = #[.slice (some ⟨g, 0, none⟩) l.length cap', .func (.func cmp) #[] #[]] := by apply Array.ext'; simpa using hvv
  obtain ⟨⟨arr, a1, a2, a3, a4, vs, a5, a6, a7⟩, hnone⟩ := hobjs.1 ⟨g, fl, .buf k (l.map encA) cap e⟩ (by simp)
  have hlt : g < w.heap.size := (Array.getElem?_eq_some_iff.1 a1).1
  have hvals : ∀ (m : List α) (us : List Value), Rels C (m.map encA).flatten us ↔ us = (m.map enc).flatten := by
    have hav : ∀ m : List α, AreVals (m.map encA).flatten (m.map enc).flatten := by
      intro m
      induction m with
      | nil => exact .nil
      | cons x m ih =>
        simp only [List.map_cons, List.flatten_cons]
        have : ∀ {xs : List AV} {vs : List Value} {ys : List AV} {us : List Value}, AreVals xs vs → AreVals ys us → AreVals (xs ++ ys) (vs ++ us) := by
          intro xs vs ys us h1 h2
          induction h1 with
          | nil => exact h2
          | cons h _ ih => exact .cons h ih
        exact this (hv x) ih
    exact fun m us => (hav m).rels C us
  have hvs : vs = (l.map enc).flatten := (hvals l vs).1 a5
  have hflat : (flatK enc k l.toArray).toList = (l.map enc).flatten := by simpa using flatK_list enc k hk l.toArray
  have hfl : (l.map enc).flatten.length = l.length * k := by rw [← hflat]; simp
  have hpost : ∀ (e' : Ending) (w' : World), (e' = .returned (.tuple #[]) ∧ ∃ n os, w' = sortWorldK enc k w g 0 n (l.mergeSort fun x y => !(ltOf cf) y x).toArray os) →
      ∃ v C' r nobjs, e' = .returned v ∧ (r = .tup [] ∧ nobjs = [(⟨g, true, .buf k ((l.mergeSort fun x y => !(ltOf cf) y x).map encA) cap e⟩ : OE)]) ∧ BelowX w.heap.size (WB [⟨g, fl, .buf k (l.map encA) cap e⟩]) w w' ∧ (∀ b o, b < w.heap.size → ¬ WB [⟨g, fl, .buf k (l.map encA) cap e⟩] b → C' b o = C b o) ∧ Com C' w' ∧ Rel C' r v ∧ Objs C' nobjs w' ∧ ∀ e' ∈ nobjs, w.heap.size ≤ e'.b ∨ WB [⟨g, fl, .buf k (l.map encA) cap e⟩] e'.b := by
    rintro e' w' ⟨rfl, n, os, rfl⟩
    have hml : (l.mergeSort fun x y => !(ltOf cf) y x).length = l.length := List.length_mergeSort _
    obtain ⟨arr', b1, b2, b3⟩ := sw_row (enc := enc) (k := k) (n := n) (os := os) (d := (l.mergeSort fun x y => !(ltOf cf) y x).toArray) a1 (by
      simp only [List.size_toArray, hml, a2]; exact Nat.mul_le_mul_right _ (by simpa using a3))
    have hwg : WB [⟨g, fl, .buf k (l.map encA) cap e⟩] g := ⟨_, List.mem_singleton.2 rfl, rfl⟩
    have hne : ∀ b o v, C b o = some v → b ≠ g ∧ b < w.heap.size := fun b o v hc => ⟨fun e => (by subst e; have := hnone o; rw [hc] at this; cases this), by have := World.block_lt_of_cell? w _ (hcom.1 _ _ _ hc); simpa using this⟩
    refine ⟨.tuple #[], C, _, _, rfl, ⟨rfl, rfl⟩, ⟨rfl, rfl, rfl, by rw [sw_size]; omega, fun b hb hn => sw_other hb (fun e => by subst e; exact hn hwg)⟩, fun _ _ _ _ => rfl, ⟨fun b o v hc => ?_, hcom.2⟩, rel_tup.2 Rels.nil, ⟨fun e' he => ?_, by simp⟩, fun e' he => ?_⟩
    · obtain ⟨h1, h2⟩ := hne b o v hc
      exact (World.cell?_of_block (w := w) (a := ⟨b, o, none⟩) (sw_other h2 h1)).trans (hcom.1 _ _ _ hc)
    · obtain rfl := List.mem_singleton.1 he
      refine ⟨⟨arr', b1, by rw [b2]; exact a2, by simpa [hml] using a3, fun cs hcs => ?_, _, (hvals _ _).2 rfl, fun v hv => ?_, ?_⟩, hnone⟩
      · obtain ⟨x, _, rfl⟩ := List.mem_map.1 hcs
        have := ((hv x).rels C (enc x)).2 rfl
        rw [← this.1]; exact hk x
      · obtain ⟨u, hu, hvu⟩ := List.mem_flatten.1 hv
        obtain ⟨x, _, rfl⟩ := List.mem_map.1 hu
        exact h1 x v hvu
      · simp only [List.size_toArray] at b3
        rw [List.length_map, b3]
        simpa using flatK_list enc k hk (l.mergeSort fun x y => !(ltOf cf) y x).toArray
    · obtain rfl := List.mem_singleton.1 he
      exact .inr hwg
  have hH : HoldsK enc k w g 0 l.toArray := by
    intro j hj
    have hj' : j < l.length * k := by simpa using hj
    have hjf : j < (flatK enc k l.toArray).toList.length := by rw [hflat, hfl]; exact hj'
    have hget : arr[j]? = some (flatK enc k l.toArray)[j]! := by
      have e1 : (arr.toList.take ((l.map encA).length * k))[j]? = arr.toList[j]? := by rw [List.getElem?_take, if_pos (by simpa using hj')]
      rw [a7, hvs, ← hflat] at e1
      rw [← Array.getElem?_toList, ← e1, Array.getElem?_toList, getElem!_pos (flatK enc k l.toArray) j hj, Array.getElem?_eq_getElem hj]
    refine ⟨?_, ?_⟩
    · rw [Nat.zero_add, cell_of_row w g j arr e (0, 0) a1]; exact hget
    · simp [World.frozen?, a1]
  refine (hs α enc hk h1 cf hO cmp #[] g 0 cap' l.toArray w hen ?_ hH hlt (by simpa using hl) hT).mono (fun e' w' h => hpost e' w' (by simpa using h))
  intro m os dk _ x y
  refine ((hcmp x y) (fun _ _ => none) _ #[.agg (enc x).toArray, .agg (enc y).toArray] ⟨fun _ _ _ h => (by cases h), fun _ _ _ h => (by cases h)⟩ ?_ ⟨by simp, by simp⟩).mono ?_
  · have hx : ∀ z, Rel (fun _ _ => none) (.agg (encA z)) (.agg (enc z).toArray) := fun z => (isVal_agg (hv z) _ _).2 rfl
    simpa using Rels.cons (hx x) (Rels.cons (hx y) Rels.nil)
  · rintro e' w' ⟨v, C', r, nobjs, rfl, ⟨rfl, rfl⟩, hb, _, _, hrel, _, _, hd⟩
    cases hrel
    exact ⟨rfl, below_grow hb hd⟩
end Go.Proofs.Ytmbfmnhcahhciaa.A

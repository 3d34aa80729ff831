import Derived.WalkKit
import Derived.Below
import Derived.Laws.Rows
import Derived.Laws.CopyRow
import Derived.Laws.AppendOwn
import Derived.RangeFuncLeaves
import Derived.RangeFuncSeq
import Derived.RangeFuncCalls
import Derived.MapKept
import Derived.Orders
import Derived.Laws.IdiomStrings
import Derived.Laws.BytesArg
import Derived.Shelf.SlIter.Nil
import Derived.RangeFuncBound
import Derived.Maps.RangeRun
import Derived.DeepKeys3
import Derived.Laws.StructEq
import Derived.Shelf.SlSortCmp.NoneTotal
import Derived.ChangeKeysEq
import Derived.Laws.MakeOwn
import Derived.ChangeArms
import Derived.ChangeOld
import Derived.Laws.DeepStrings4
import Derived.OpenShut
import Derived.Test.YtljgdbgcleibjaaProg
import Derived.KernelRfl
import Derived.OrdersIn
import Derived.Lib.AppendZeros
import Derived.Lib.AppendZerosOnto
import Derived.Lib.Overlaps
import Derived.Deep.AppendSrc
import Derived.Shelf.SlGeneric
import Derived.Ground.SlsfProg
import Derived.Scope
import Derived.Test.YtljgdbgcleibjaaM1
namespace Go.Proofs.Ytljgdbgcleibjaa.A
open Go Go.RowKit Go.Sort Go.Shelf
set_option linter.unusedVariables false
set_option linter.unusedSimpArgs false
set_option linter.unusedSectionVars false
variable {P : Program} {w0 : Base} {C0 C : CS} {T : TS} {S S' : AState} {a : Act} {w : World} {ops : Array Oper} {rest : List Oper} {o : Oper} {Q : Exit → AState → Prop}
variable {t : Nat} {ty ty' : TypeId} {pos : String} {aft : Array Edge}
def SortFuncK (P : Program) (f k : Nat) : Prop := ∀ (α : Type) [Inhabited α] (enc : α → List Value) (hk : ∀ x, (enc x).length = k) (h1 : ∀ x, ∀ v ∈ enc x, v.oneCell' = true) (cf : α → α → Int) (hO : SWO (ltOf cf)) (g : Nat) (cb : Array Value) (blk off cap : Nat) (d : Array α) (w : World)
    (eg : ∀ args w, (callFunc g args).run P w = .ok (.enter g args) w) (hcmp : CmpLays P g cb enc k cf blk off d.size w) (hH : HoldsK enc k w blk off d) (hblk : blk < w.heap.size) (hsz : d.size < 4611686018427387904) (hT : ∀ x y, (ltOf cf) x y = false → (ltOf cf) y x = false → x = y),
    Calls P f #[.slice (some ⟨blk, off, none⟩) d.size cap, .func (.func g) #[] cb] w fun e w' =>
      e = .returned (.tuple #[]) ∧ ∃ n os, w' = sortWorldK enc k w blk off n (d.toList.mergeSort fun x y => !(ltOf cf) y x).toArray os
def SortFunc0 (P : Program) (f : Nat) : Prop := ∀ (p : Option Addr) (cap : Nat) (fv : Value) (w : World), Calls P f #[.slice p 0 cap, fv] w fun e w' => e = .returned (.tuple #[]) ∧ w' = w
theorem heap_onCells {w : World} {blk k : Nat} {f : Array Value → Array Value} (h : k ≠ blk) : (mapBlock w blk f).heap[k]? = w.heap[k]? := by
  simp only [mapBlock, Array.getElem?_modify]
  rw [if_neg (fun e => h e.symm)]
theorem grow_heap {w : World} {os : Array Obj} {k : Nat} (h : k < w.heap.size) : (grow w os).heap[k]? = w.heap[k]? := by
  simp [grow, Array.getElem?_append_left h]
theorem sw_other {α : Type} [Inhabited α] {enc : α → List Value} {k : Nat} {w : World} {blk n : Nat} {d : Array α} {os : Array Obj} {b : Nat} (hb : b < w.heap.size) (hne : b ≠ blk) : (sortWorldK enc k w blk 0 n d os).heap[b]? = w.heap[b]? := by
  unfold sortWorldK putRowK putRow
  rw [grow_heap (by simp [mapBlock, ahead]; exact hb), heap_onCells hne]
  rfl
theorem sw_size {α : Type} [Inhabited α] {enc : α → List Value} {k : Nat} {w : World} {blk n : Nat} {d : Array α} {os : Array Obj} : (sortWorldK enc k w blk 0 n d os).heap.size = w.heap.size + os.size := by
  simp [sortWorldK, putRowK, putRow, mapBlock, grow, ahead]
theorem sw_row {α : Type} [Inhabited α] {enc : α → List Value} {k : Nat} {w : World} {blk n : Nat} {d : Array α} {os : Array Obj} {arr : Array Value} {e : TypeId} (hb : w.heap[blk]? = some (.cells arr e (0, 0))) (hd : d.size * k ≤ arr.size) :
    ∃ arr', (sortWorldK enc k w blk 0 n d os).heap[blk]? = some (.cells arr' e (0, 0)) ∧ arr'.size = arr.size ∧ arr'.toList.take (d.size * k) = (flatK enc k d).toList := by
  have hlt : blk < w.heap.size := (Array.getElem?_eq_some_iff.1 hb).1
  refine ⟨putCells id 0 (flatK enc k d) arr, ?_, by simp [putCells], ?_⟩
  · unfold sortWorldK putRowK putRow
    rw [grow_heap (by simp [mapBlock, ahead]; exact hlt)]
    simp only [mapBlock, Array.getElem?_modify, if_true]
    have : (Go.Sort.ahead w n).heap[blk]? = some (Obj.cells arr e (0, 0)) := hb
    rw [this]
    rfl
  · apply List.ext_getElem?
    intro j
    rw [List.getElem?_take]
    split
    · rename_i hj
      have hja : j < arr.size := by omega
      have hjf : j < (flatK enc k d).size := by simpa using hj
      simp only [putCells, Array.getElem?_toList, Array.getElem?_mapIdx, Array.getElem?_eq_getElem hja, Option.map_some, Nat.zero_le, true_and, Nat.zero_add, hjf, if_true, Nat.sub_zero, id_eq]
      rw [getElem!_pos (flatK enc k d) j hjf, Array.getElem?_eq_getElem hjf]
    · rename_i hj
      rw [List.getElem?_eq_none]; simpa using hj
theorem flatK_list {α : Type} [Inhabited α] (enc : α → List Value) (k : Nat) (hk : ∀ x, (enc x).length = k) (d : Array α) : (flatK enc k d).toList = (d.toList.map enc).flatten := by
  apply List.ext_getElem?
  intro j
  by_cases hj : j < d.size * k
  · have k0 : 0 < k := by rcases Nat.eq_zero_or_pos k with h | h; · subst h; simp at hj
                          · exact h
    have hq : j / k < d.size := Nat.div_lt_of_lt_mul (by rwa [Nat.mul_comm])
    have hr : j % k < k := Nat.mod_lt _ k0
    have hjf : j < (flatK enc k d).size := by simpa using hj
    rw [Array.getElem?_toList, Array.getElem?_eq_getElem hjf, ← getElem!_pos (flatK enc k d) j hjf, get_flatK enc k d j hj]
    have hg : ∀ (l : List (List Value)), (∀ x ∈ l, x.length = k) → ∀ q r c cs, l[q]? = some cs → cs[r]? = some c → l.flatten[q * k + r]? = some c := by
      intro l
      induction l with
      | nil => intro _ q r c cs h; simp at h
      | cons x l ih =>
        intro hl q r c cs h1 h2
        have hx := hl x (by simp)
        rw [List.flatten_cons]
        cases q with
        | zero =>
          simp at h1; subst h1
          rw [List.getElem?_append_left (by have := (List.getElem?_eq_some_iff.1 h2).1; omega)]; simpa using h2
        | succ q =>
          rw [List.getElem?_append_right (by rw [hx, Nat.add_mul]; omega)]
          have := ih (fun y hy => hl y (List.mem_cons_of_mem _ hy)) q r c cs (by simpa using h1) h2
          rw [← this]; congr 1; rw [hx, Nat.add_mul]; omega
    have h1 : (d.toList.map enc)[j / k]? = some (enc d[j / k]!) := by
      rw [List.getElem?_map, Array.getElem?_toList, Array.getElem?_eq_getElem hq, getElem!_pos d _ hq]; rfl
    have h2 : (enc d[j / k]!)[j % k]? = some (enc d[j / k]!)[j % k]! := by
      have : j % k < (enc d[j / k]!).length := by rw [hk]; exact hr
      rw [List.getElem?_eq_getElem this, List.getElem!_eq_getElem?_getD, List.getElem?_eq_getElem this]; rfl
    have := hg (d.toList.map enc) (fun x hx => by obtain ⟨y, _, rfl⟩ := List.mem_map.1 hx; exact hk y) _ _ _ _ h1 h2
    rw [show j / k * k + j % k = j from by rw [Nat.mul_comm]; exact Nat.div_add_mod j k] at this
    exact this.symm
  · have hl : (d.toList.map enc).flatten.length = d.size * k := by
      have : ∀ (l : List α), (l.map enc).flatten.length = l.length * k := by
        intro l
        induction l with
        | nil => simp
        | cons x l ih => simp only [List.map_cons, List.flatten_cons, List.length_append, hk, ih, List.length_cons, Nat.add_mul]; omega
      rw [this]; simp
    rw [List.getElem?_eq_none (by simpa using hj), List.getElem?_eq_none (by omega)]
theorem below_grow {w w' : World} (h : Below w.heap.size w w') (hd : w.drawn ≤ w'.drawn) : ∃ q os', w' = grow (w.drewN q) os' := by
  refine ⟨w'.drawn - w.drawn, w'.heap.extract w.heap.size w'.heap.size, ?_⟩
  obtain ⟨heap, tape, drawn, os, output⟩ := w
  obtain ⟨heap', tape', drawn', os', output'⟩ := w'
  obtain ⟨h1, h2, h3, h4, h5⟩ := h
  simp only at *
  subst h1 h2 h3
  simp only [grow, World.drewN]
  congr 1
  · apply Array.ext_getElem?
    intro k
    by_cases hk : k < heap.size
    · rw [Array.getElem?_append_left hk]; exact h5 k hk
    · rw [Array.getElem?_append_right (by omega), Array.getElem?_extract]
      split
      · congr 1; omega
      · rw [Array.getElem?_eq_none (by omega)]
  · omega
theorem aw_sortFunc {f k cmp : Nat} {α : Type} [Inhabited α] {encA : α → List AV} {enc : α → List Value} (cf : α → α → Int) (hs : SortFuncK P f k) (h0 : SortFunc0 P f) (hen : entersT P cmp) (hv : ∀ x, AreVals (encA x) (enc x)) (hk : ∀ x, (enc x).length = k) (h1 : ∀ x, ∀ v ∈ enc x, v.oneCell' = true)
    (hO : SWO (ltOf cf)) (hT : ∀ x y, (ltOf cf) x y = false → (ltOf cf) y x = false → x = y) (hcmp : ∀ x y, ACq P cmp [.agg (encA x), .agg (encA y)] [] (fun r n => n = [] ∧ r = .v (.int .i64 (cf x y))))
    {g cap cap' e n : Nat} {fl : Bool} {l : List α} (hn : n = l.length) (hl : l.length < 4611686018427387904) :
    AW P f [.v (.slice (some ⟨g, 0, none⟩) n cap'), .fn cmp []] [] [⟨g, fl, .buf k (l.map encA) cap e⟩] (fun r nobjs => r = .tup [] ∧ nobjs = [⟨g, true, .buf k ((l.mergeSort fun x y => !(ltOf cf) y x).map encA) cap e⟩]) := by
  intro C w vals hcom hrels hobjs
  subst hn
  obtain ⟨v0, vs0, hvv, hr0, hr1⟩ := hrels.cons_inv
  obtain ⟨v1, vs1, rfl, hr2, hr3⟩ := hr1.cons_inv
  clear hr1
  obtain rfl := hr3.nil_inv
  cases hr0
  obtain ⟨arr1, rfl⟩ : ∃ arr, v1 = .func (.func cmp) #[] arr := by cases hr2; exact ⟨_, rfl⟩
  have ha := (rel_fn.1 hr2).nil_inv
  obtain rfl : arr1 = #[] := by apply Array.ext'; simpa using ha
  obtain rfl : vals = #[.slice (some ⟨g, 0, none⟩) l.length cap', .func (.func cmp) #[] #[]] := by apply Array.ext'; simpa using hvv
  obtain ⟨⟨arr, a1, a2, a3, a4, vs, a5, a6, a7⟩, hnone⟩ := hobjs.1 ⟨g, fl, .buf k (l.map encA) cap e⟩ (by simp)
  have hlt : g < w.heap.size := (Array.getElem?_eq_some_iff.1 a1).1
  have hvals : ∀ (m : List α) (us : List Value), Rels C (m.map encA).flatten us ↔ us = (m.map enc).flatten := by
    have hav : ∀ m : List α, AreVals (m.map encA).flatten (m.map enc).flatten := by
      intro m
      induction m with
      | nil => exact .nil
      | cons x m ih =>
        simp only [List.map_cons, List.flatten_cons]
        have : ∀ {xs : List AV} {vs : List Value} {ys : List AV} {us : List Value}, AreVals xs vs → AreVals ys us → AreVals (xs ++ ys) (vs ++ us) := by
          intro xs vs ys us h1 h2
          induction h1 with
          | nil => exact h2
          | cons h _ ih => exact .cons h ih
        exact this (hv x) ih
    exact fun m us => (hav m).rels C us
  have hvs : vs = (l.map enc).flatten := (hvals l vs).1 a5
  have hflat : (flatK enc k l.toArray).toList = (l.map enc).flatten := by simpa using flatK_list enc k hk l.toArray
  have hfl : (l.map enc).flatten.length = l.length * k := by rw [← hflat]; simp
  have hpost : ∀ (e' : Ending) (w' : World), (e' = .returned (.tuple #[]) ∧ ∃ n os, w' = sortWorldK enc k w g 0 n (l.mergeSort fun x y => !(ltOf cf) y x).toArray os) →
      ∃ v C' r nobjs, e' = .returned v ∧ (r = .tup [] ∧ nobjs = [(⟨g, true, .buf k ((l.mergeSort fun x y => !(ltOf cf) y x).map encA) cap e⟩ : OE)]) ∧ BelowX w.heap.size (WB [⟨g, fl, .buf k (l.map encA) cap e⟩]) w w' ∧ (∀ b o, b < w.heap.size → ¬ WB [⟨g, fl, .buf k (l.map encA) cap e⟩] b → C' b o = C b o) ∧ Com C' w' ∧ Rel C' r v ∧ Objs C' nobjs w' ∧ ∀ e' ∈ nobjs, w.heap.size ≤ e'.b ∨ WB [⟨g, fl, .buf k (l.map encA) cap e⟩] e'.b := by
    rintro e' w' ⟨rfl, n, os, rfl⟩
    have hml : (l.mergeSort fun x y => !(ltOf cf) y x).length = l.length := List.length_mergeSort _
    obtain ⟨arr', b1, b2, b3⟩ := sw_row (enc := enc) (k := k) (n := n) (os := os) (d := (l.mergeSort fun x y => !(ltOf cf) y x).toArray) a1 (by
      simp only [List.size_toArray, hml, a2]; exact Nat.mul_le_mul_right _ (by simpa using a3))
    have hwg : WB [⟨g, fl, .buf k (l.map encA) cap e⟩] g := ⟨_, List.mem_singleton.2 rfl, rfl⟩
    have hne : ∀ b o v, C b o = some v → b ≠ g ∧ b < w.heap.size := fun b o v hc => ⟨fun e => (by subst e; have := hnone o; rw [hc] at this; cases this), by have := World.block_lt_of_cell? w _ (hcom.1 _ _ _ hc).cell; simpa using this⟩
    refine ⟨.tuple #[], C, _, _, rfl, ⟨rfl, rfl⟩, ⟨rfl, rfl, rfl, by rw [sw_size]; omega, fun b hb hn => sw_other hb (fun e => by subst e; exact hn hwg)⟩, fun _ _ _ _ => rfl, ⟨fun b o v hc => ?_, hcom.2⟩, rel_tup.2 Rels.nil, ⟨fun e' he => ?_, by simp⟩, fun e' he => ?_⟩
    · obtain ⟨h1, h2⟩ := hne b o v hc
      exact (hcom.1 _ _ _ hc).keep (sw_other h2 h1)
    · obtain rfl := List.mem_singleton.1 he
      refine ⟨⟨arr', b1, by rw [b2]; exact a2, by simpa [hml] using a3, fun cs hcs => ?_, _, (hvals _ _).2 rfl, fun v hv => ?_, ?_⟩, hnone⟩
      · obtain ⟨x, _, rfl⟩ := List.mem_map.1 hcs
        have := ((hv x).rels C (enc x)).2 rfl
        rw [← this.1]; exact hk x
      · obtain ⟨u, hu, hvu⟩ := List.mem_flatten.1 hv
        obtain ⟨x, _, rfl⟩ := List.mem_map.1 hu
        exact h1 x v hvu
      · simp only [List.size_toArray] at b3
        rw [List.length_map, b3]
        simpa using flatK_list enc k hk (l.mergeSort fun x y => !(ltOf cf) y x).toArray
    · obtain rfl := List.mem_singleton.1 he
      exact .inr hwg
  have hH : HoldsK enc k w g 0 l.toArray := by
    intro j hj
    have hj' : j < l.length * k := by simpa using hj
    have hjf : j < (flatK enc k l.toArray).toList.length := by rw [hflat, hfl]; exact hj'
    have hget : arr[j]? = some (flatK enc k l.toArray)[j]! := by
      have e1 : (arr.toList.take ((l.map encA).length * k))[j]? = arr.toList[j]? := by rw [List.getElem?_take, if_pos (by simpa using hj')]
      rw [a7, hvs, ← hflat] at e1
      rw [← Array.getElem?_toList, ← e1, Array.getElem?_toList, getElem!_pos (flatK enc k l.toArray) j hj, Array.getElem?_eq_getElem hj]
    refine ⟨?_, ?_⟩
    · rw [Nat.zero_add, cell_of_row w g j arr e (0, 0) a1]; exact hget
    · simp [World.frozen?, a1]
  refine (hs α enc hk h1 cf hO cmp #[] g 0 cap' l.toArray w hen ?_ hH hlt (by simpa using hl) hT).mono (fun e' w' h => hpost e' w' (by simpa using h))
  intro m os dk _ x y
  refine ((hcmp x y) (fun _ _ => none) _ #[.agg (enc x).toArray, .agg (enc y).toArray] ⟨fun _ _ _ h => (by cases h), fun _ _ _ h => (by cases h)⟩ ?_ ⟨by simp, by simp⟩).mono ?_
  · have hx : ∀ z, Rel (fun _ _ => none) (.agg (encA z)) (.agg (enc z).toArray) := fun z => (isVal_agg (hv z) _ _).2 rfl
    simpa using Rels.cons (hx x) (Rels.cons (hx y) Rels.nil)
  · rintro e' w' ⟨v, C', r, nobjs, rfl, ⟨rfl, rfl⟩, hb, _, _, hrel, _, _, hd⟩
    cases hrel
    exact ⟨rfl, below_grow hb hd⟩
end Go.Proofs.Ytljgdbgcleibjaa.A
namespace Go.Proofs.Ytljgdbgcleibjaa.A
open Go Go.RowKit
set_option linter.unusedVariables false
set_option linter.unusedSimpArgs false
set_option linter.unusedSectionVars false
variable {P : Program} {w0 : Base} {C0 C : CS} {T : TS} {S S' : AState} {a : Act} {w : World} {ops : Array Oper} {rest : List Oper} {o : Oper} {Q : Exit → AState → Prop}
variable {t : Nat} {ty ty' : TypeId} {pos : String} {aft : Array Edge}
theorem r_lenV {x : Operand} {A : Option Addr} {n cap : Nat} {st e : TypeId} (hx : S.ev x = some (.a (.v (.slice A n cap)))) (hst : sliceT P st = some e) (ht : Nat.blt t S.nt = true)
    (hr : AWL P w0 C0 ops rest Q (S.put t (.a (.v (.int .i64 n))))) : AWL P w0 C0 ops (⟨some t, .call ⟨.builtin .len, #[x], #[st]⟩, ty, pos, aft, none⟩ :: rest) Q S :=
  awl_pure ht (fun C T a w hs => ⟨.int .i64 n, by simp [execOp, resolve, invoke, builtin, Builtin.len_, Builtin.lenOf, hs.evv hx, run_underlying (sliceT_un hst), Sem.run_bind, Result.andThen, goInt], srel_v _⟩) hr
theorem r_indexV {st e : TypeId} {sz g off n cap : Nat} {x y : Operand} {k : IntKind} {i : Int} (hx : S.ev x = some (.a (.v (.slice (some ⟨g, off, none⟩) n cap)))) (hy : S.ev y = some (.a (.v (.int k i)))) (hst : sliceT P st = some e) (hsz : szT P e = some sz) (h0 : 0 ≤ i) (h1 : i < n) (ht : Nat.blt t S.nt = true)
    (hr : AWL P w0 C0 ops rest Q (S.put t (.a (.v (.pointer (some ⟨g, off + i.toNat * sz, none⟩)))))) : AWL P w0 C0 ops (⟨some t, .indexAddr st x y, ty, pos, aft, none⟩ :: rest) Q S :=
  awl_pure ht (fun C T a w hs => ⟨_, by simp [execOp, hs.evv hx, hs.evv hy, run_indexAt_slice hst hsz h0 h1], srel_v _⟩) hr
theorem sliceT_el {st e : TypeId} (hst : sliceT P st = some e) : P.underlying st = some (.slice (P.elem st)) ∧ P.elem st = e := by
  have h := sliceT_un hst
  have : P.elem st = e := by simp [Program.elem, h]
  exact ⟨by rw [this]; exact h, this⟩
theorem r_sliceVL {st e : TypeId} {sz g off n cap : Nat} {x y : Operand} {k : IntKind} {lo : Int} (hx : S.ev x = some (.a (.v (.slice (some ⟨g, off, none⟩) n cap)))) (hy : S.ev y = some (.a (.v (.int k lo)))) (hst : sliceT P st = some e) (hsz : szT P e = some sz) (h0 : 0 ≤ lo) (h1 : lo ≤ n) (hc : n ≤ cap) (ht : Nat.blt t S.nt = true)
    (hr : ∀ A : Addr, (lo.toNat < n → A = ⟨g, off + lo.toNat * sz, none⟩) → AWL P w0 C0 ops rest Q (S.put t (.a (.v (.slice (some A) (n - lo.toNat) (cap - lo.toNat)))))) : AWL P w0 C0 ops (⟨some t, .slice st x (some y) none none, ty, pos, aft, none⟩ :: rest) Q S :=
  have hr' := hr (if cap = lo.toNat then ⟨g, off, none⟩ else ⟨g, off + lo.toNat * sz, none⟩) (fun h => if_neg (by omega))
  awl_pure ht (fun C T a w hs => by
    obtain ⟨hu', he⟩ := sliceT_el hst
    have hrun := (run_sliceAt_slice w st (.slice (some ⟨g, off, none⟩) n cap) _ _ _ hu').trans (run_slice_l w st (some ⟨g, off, none⟩) n cap hu' k lo h0 h1)
    rw [he, run_sz hsz] at hrun
    simp only [Result.andThen] at hrun
    refine ⟨sliced (some ⟨g, off, none⟩) lo.toNat n cap sz, by simp [execOp, hs.evv hx, hs.evv hy, hrun], ?_⟩
    have hv : sliced (some ⟨g, off, none⟩) lo.toNat n cap sz = .slice (some (if cap = lo.toNat then ⟨g, off, none⟩ else ⟨g, off + lo.toNat * sz, none⟩)) (n - lo.toNat) (cap - lo.toNat) := by
      unfold sliced
      split <;> simp [*, addr_add]
    rw [hv]; exact srel_v _) hr'
theorem r_sliceVH {st e : TypeId} {sz g off n cap : Nat} {x y : Operand} {k : IntKind} {hi : Int} (hx : S.ev x = some (.a (.v (.slice (some ⟨g, off, none⟩) n cap)))) (hy : S.ev y = some (.a (.v (.int k hi)))) (hst : sliceT P st = some e) (hsz : szT P e = some sz) (h0 : 0 ≤ hi) (h1 : hi ≤ cap) (ht : Nat.blt t S.nt = true)
    (hr : AWL P w0 C0 ops rest Q (S.put t (.a (.v (.slice (some ⟨g, off, none⟩) hi.toNat cap))))) : AWL P w0 C0 ops (⟨some t, .slice st x none (some y) none, ty, pos, aft, none⟩ :: rest) Q S :=
  awl_pure ht (fun C T a w hs => by
    obtain ⟨hu', he⟩ := sliceT_el hst
    have hrun := (run_sliceAt_slice w st (.slice (some ⟨g, off, none⟩) n cap) _ _ _ hu').trans (run_slice_h w st (some ⟨g, off, none⟩) n cap hu' k hi h0 h1)
    rw [he, run_sz hsz] at hrun
    simp only [Result.andThen] at hrun
    refine ⟨sliced (some ⟨g, off, none⟩) 0 hi.toNat cap sz, by simp [execOp, hs.evv hx, hs.evv hy, hrun], ?_⟩
    have hv : sliced (some ⟨g, off, none⟩) 0 hi.toNat cap sz = .slice (some ⟨g, off, none⟩) hi.toNat cap := by
      unfold sliced
      split <;> simp [*, addr_add]
    rw [hv]; exact srel_v _) hr
theorem r_sliceVLH {st e : TypeId} {sz g off n cap : Nat} {x y z : Operand} {k k' : IntKind} {lo hi : Int} (hx : S.ev x = some (.a (.v (.slice (some ⟨g, off, none⟩) n cap)))) (hy : S.ev y = some (.a (.v (.int k lo)))) (hz : S.ev z = some (.a (.v (.int k' hi)))) (hst : sliceT P st = some e) (hsz : szT P e = some sz) (h0 : 0 ≤ lo) (h01 : lo ≤ hi) (h1 : hi ≤ cap) (ht : Nat.blt t S.nt = true)
    (hr : ∀ A : Addr, (lo.toNat < hi.toNat → A = ⟨g, off + lo.toNat * sz, none⟩) → AWL P w0 C0 ops rest Q (S.put t (.a (.v (.slice (some A) (hi.toNat - lo.toNat) (cap - lo.toNat)))))) : AWL P w0 C0 ops (⟨some t, .slice st x (some y) (some z) none, ty, pos, aft, none⟩ :: rest) Q S :=
  have hr' := hr (if cap = lo.toNat then ⟨g, off, none⟩ else ⟨g, off + lo.toNat * sz, none⟩) (fun h => if_neg (by omega))
  awl_pure ht (fun C T a w hs => by
    obtain ⟨hu', he⟩ := sliceT_el hst
    have hrun := (run_sliceAt_slice w st (.slice (some ⟨g, off, none⟩) n cap) _ _ _ hu').trans (run_slice_lh w st (some ⟨g, off, none⟩) n cap hu' k k' lo hi h0 h01 h1)
    rw [he, run_sz hsz] at hrun
    simp only [Result.andThen] at hrun
    refine ⟨sliced (some ⟨g, off, none⟩) lo.toNat hi.toNat cap sz, by simp [execOp, hs.evv hx, hs.evv hy, hs.evv hz, hrun], ?_⟩
    have hv : sliced (some ⟨g, off, none⟩) lo.toNat hi.toNat cap sz = .slice (some (if cap = lo.toNat then ⟨g, off, none⟩ else ⟨g, off + lo.toNat * sz, none⟩)) (hi.toNat - lo.toNat) (cap - lo.toNat) := by
      unfold sliced
      split <;> simp [*, addr_add]
    rw [hv]; exact srel_v _) hr'
theorem r_sliceV3 {st e : TypeId} {sz g off n cap : Nat} {x y z u : Operand} {k k' k2 : IntKind} {lo hi mx : Int} (hx : S.ev x = some (.a (.v (.slice (some ⟨g, off, none⟩) n cap)))) (hy : S.ev y = some (.a (.v (.int k lo)))) (hz : S.ev z = some (.a (.v (.int k' hi)))) (hu : S.ev u = some (.a (.v (.int k2 mx)))) (hst : sliceT P st = some e) (hsz : szT P e = some sz) (h0 : 0 ≤ lo) (h01 : lo ≤ hi) (h1 : hi ≤ mx) (h2 : mx ≤ cap) (ht : Nat.blt t S.nt = true)
    (hr : ∀ v : Value, AWL P w0 C0 ops rest Q (S.put t (.a (.v v)))) : AWL P w0 C0 ops (⟨some t, .slice st x (some y) (some z) (some u), ty, pos, aft, none⟩ :: rest) Q S :=
  have hr' := hr (sliced (some ⟨g, off, none⟩) lo.toNat hi.toNat mx.toNat sz)
  awl_pure ht (fun C T a w hs => by
    obtain ⟨hu', he⟩ := sliceT_el hst
    have hrun := (run_sliceAt_slice w st (.slice (some ⟨g, off, none⟩) n cap) _ _ _ hu').trans (run_slice_lhm w st (some ⟨g, off, none⟩) n cap hu' k k' k2 lo hi mx h0 h01 h1 h2)
    rw [he, run_sz hsz] at hrun
    simp only [Result.andThen] at hrun
    refine ⟨sliced (some ⟨g, off, none⟩) lo.toNat hi.toNat mx.toNat sz, by simp [execOp, hs.evv hx, hs.evv hy, hs.evv hz, hs.evv hu, hrun], ?_⟩
    exact srel_v _) hr'
theorem box_get {C : CS} {cs : List AV} {arr : Array Value} (h : Rels C cs arr.toList) : arr.size = cs.length := by have := h.1; simpa using this
theorem rels_vals {C : CS} (vs : List Value) : Rels C (vs.map AV.v) vs := ⟨by simp, fun j c u h1 h2 => by rw [List.getElem?_map, h2] at h1; simp at h1; subst h1; exact .v _⟩
theorem r_sliceVLd {st e : TypeId} {sz g off n cap : Nat} {x y : Operand} {k : IntKind} {lo : Int} (hx : S.ev x = some (.a (.v (.slice (some ⟨g, off, none⟩) n cap)))) (hy : S.ev y = some (.a (.v (.int k lo)))) (hst : sliceT P st = some e) (hsz : szT P e = some sz) (h0 : 0 ≤ lo) (h1 : lo ≤ n) (hc : n ≤ cap) (ht : Nat.blt t S.nt = true)
    (hr : AWL P w0 C0 ops rest Q (S.put t (.a (.v (.slice (some (if cap = lo.toNat then ⟨g, off, none⟩ else ⟨g, off + lo.toNat * sz, none⟩)) (n - lo.toNat) (cap - lo.toNat)))))) : AWL P w0 C0 ops (⟨some t, .slice st x (some y) none none, ty, pos, aft, none⟩ :: rest) Q S :=
  awl_pure ht (fun C T a w hs => by
    obtain ⟨hu', he⟩ := sliceT_el hst
    have hrun := (run_sliceAt_slice w st (.slice (some ⟨g, off, none⟩) n cap) _ _ _ hu').trans (run_slice_l w st (some ⟨g, off, none⟩) n cap hu' k lo h0 h1)
    rw [he, run_sz hsz] at hrun
    simp only [Result.andThen] at hrun
    refine ⟨sliced (some ⟨g, off, none⟩) lo.toNat n cap sz, by simp [execOp, hs.evv hx, hs.evv hy, hrun], ?_⟩
    have hv : sliced (some ⟨g, off, none⟩) lo.toNat n cap sz = .slice (some (if cap = lo.toNat then ⟨g, off, none⟩ else ⟨g, off + lo.toNat * sz, none⟩)) (n - lo.toNat) (cap - lo.toNat) := by
      unfold sliced
      split <;> simp [*, addr_add]
    rw [hv]; exact srel_v _) hr
section
variable {K α : Type} [DecidableEq K] {ek : K → Value} {ev : α → AV} {kt et : TypeId}
theorem mfind_del_none : ∀ (m : List (K × α)) (k : K), mfind (m.map (·.1)) k = none → mdel m k = m
  | [], k, _ => rfl
  | (x, u) :: r, k, h => by
    by_cases hx : x = k
    · simp [mfind, hx] at h
    · simp [mfind, hx] at h
      simp [mdel, hx, mfind_del_none r k (by simpa using h)]
theorem mfind_del_some : ∀ (m : List (K × α)) (k : K) (i : Nat), mfind (m.map (·.1)) k = some i → mdel m k = m.eraseIdx i
  | [], k, i, h => by simp [mfind] at h
  | (x, u) :: r, k, i, h => by
    by_cases hx : x = k
    · simp [mfind, hx] at h
      subst h; subst hx; simp [mdel]
    · cases hr : mfind (r.map (·.1)) k with
      | none => simp [mfind, hx, hr] at h
      | some j =>
        simp [mfind, hx, hr] at h
        subst h
        simp [mdel, hx, mfind_del_some r k j hr]
theorem rels_erase {C : CS} {cs : List AV} {vs : List Value} (h : Rels C cs vs) (i : Nat) : Rels C (cs.eraseIdx i) (vs.eraseIdx i) := by
  refine ⟨by rw [List.length_eraseIdx, List.length_eraseIdx, h.1], fun j c u h1 h2 => ?_⟩
  rw [List.getElem?_eraseIdx] at h1 h2
  split at h1
  · rename_i hj; rw [if_pos hj] at h2; exact h.2 _ _ _ h1 h2
  · rename_i hj; rw [if_neg hj] at h2; exact h.2 _ _ _ h1 h2
theorem map_erase {α β : Type} (f : α → β) : ∀ (l : List α) (i : Nat), (l.eraseIdx i).map f = (l.map f).eraseIdx i
  | [], i => by simp
  | x :: l, 0 => by simp
  | x :: l, i + 1 => by simp [map_erase f l i]
theorem run_del (KE : KeyEnc P kt ek) {mt kty : TypeId} (hmt : mapT P mt = some (kt, et)) {b : Nat} {m : List (K × α)} (h : ObjRel C b (.map (encM ek ev m)) w) (k : K) :
    ∃ ents' clock', (Builtin.delete_ #[mt, kty] ty #[.map (some b), ek k]).run P w = .ok (.tuple #[]) { w with heap := w.heap.setIfInBounds b (.map ents' clock') } ∧
      ents'.toList.map (·.key) = (encM ek ev (mdel m k)).map (·.1) ∧ Rels C ((encM ek ev (mdel m k)).map (·.2)) (ents'.toList.map (·.val)) ∧ (ents'.toList.map (·.born)).Pairwise (· < ·) ∧ ∀ e ∈ ents'.toList, e.born < clock' := by
  obtain ⟨ents, clock, h1, h2, h3, h4, h5⟩ := map_ents h
  have hf := KE.find ents.toList (m.map (·.1)) k w h2
  have hc := fun e => KE.check e k w
  have e1 : (encM ek ev (mdel m k)).map (·.1) = ((mdel m k).map (·.1)).map ek := by simp [encM]
  have e2 : (encM ek ev (mdel m k)).map (·.2) = (mdel m k).map fun p => ev p.2 := by simp [encM]
  rw [e1, e2]
  cases hm : mfind (m.map (·.1)) k with
  | none =>
    refine ⟨ents, clock, ?_, ?_, ?_, h4, h5⟩
    · simp [Builtin.delete_, run_underlying (mapT_un hmt), run_getMap h1, run_setMap h1, hc, hf, hm]
    · rw [mfind_del_none m k hm]; exact h2
    · rw [mfind_del_none m k hm]; exact h3
  | some i =>
    have hi : i < m.length := by
      have : ∀ (m : List (K × α)) (i : Nat), mfind (m.map (·.1)) k = some i → i < m.length := by
        intro m
        induction m with
        | nil => intro i h; simp [mfind] at h
        | cons p r ih =>
          intro i h
          by_cases hx : p.1 = k
          · simp [mfind, hx] at h; subst h; simp
          · cases hr : mfind (r.map (·.1)) k with
            | none => simp [mfind, hx, hr] at h
            | some j => simp [mfind, hx, hr] at h; subst h; have := ih j hr; simp; omega
      exact this m i hm
    have hil : i < ents.toList.length := by have := congrArg List.length h2; simp at this; simp; omega
    obtain ⟨e0, hei⟩ : ∃ e0, ents.toList[i]? = some e0 := ⟨_, List.getElem?_eq_getElem hil⟩
    have hei' : ents[i]? = some e0 := by simpa using hei
    have htl : (ents.eraseIdxIfInBounds i).toList = ents.toList.eraseIdx i := by
      have hil2 : i < ents.size := by simpa using hil
      simp [Array.eraseIdxIfInBounds, hil2]
    refine ⟨ents.eraseIdxIfInBounds i, clock, ?_, ?_, ?_, ?_, ?_⟩
    · simp [Builtin.delete_, run_underlying (mapT_un hmt), run_getMap h1, run_setMap h1, hc, hf, hm, hei']
    · rw [htl, mfind_del_some m k i hm, map_erase, map_erase, map_erase, h2]
    · rw [htl, mfind_del_some m k i hm, map_erase, map_erase]; exact rels_erase h3 i
    · rw [htl]; exact h4.sublist ((List.eraseIdx_sublist _ _).map _)
    · intro e he
      rw [htl] at he
      exact h5 e ((List.eraseIdx_sublist _ _).mem he)
end
end Go.Proofs.Ytljgdbgcleibjaa.A
namespace Go.Proofs.Ytljgdbgcleibjaa.A
open Go Go.RowKit
set_option linter.unusedVariables false
set_option linter.unusedSimpArgs false
set_option linter.unusedSectionVars false
variable {P : Program} {w0 : Base} {C0 C : CS} {T : TS} {S S' : AState} {a : Act} {w : World} {ops : Array Oper} {rest : List Oper} {o : Oper} {Q : Exit → AState → Prop}
variable {t : Nat} {ty : TypeId} {pos : String} {aft : Array Edge}
theorem made_one (z : Value) (n : Nat) : (madeCells #[z] n).toList = List.replicate n z := by
  unfold madeCells
  rw [Array.toList_map, Array.toList_range]
  apply List.ext_getElem?
  intro i
  rw [List.getElem?_map]
  by_cases h : i < n
  · rw [List.getElem?_range h]
    simp [h, Nat.mod_one]
  · rw [List.getElem?_eq_none (by simpa using h), List.getElem?_eq_none (by simpa using h)]; rfl
theorem r_makeSlice {st e bytes : Nat} {zv : Value} {x y : Operand} {k k' : IntKind} {n : Nat} (hx : S.ev x = some (.a (.v (.int k (n : Int))))) (hy : S.ev y = some (.a (.v (.int k' (n : Int))))) (hst : sliceT P st = some e) (hsz : szT P e = some 1) (hby : bytesT P e = some bytes) (hz : zeroT P e = some [zv])
    (hb : bytes * n ≤ 281474976710656) (hn : n ≤ 1000000000) (ht : Nat.blt t S.nt = true)
    (hr : ∀ b, AWL P w0 C0 ops rest Q (AState.put ⟨S.nt, S.slots, ⟨b, true, .box (List.replicate n (.v zv))⟩ :: S.objs⟩ t (.a (.v (.slice (some ⟨b, 0, none⟩) n n))))) :
    AWL P w0 C0 ops (⟨some t, .makeSlice st x y, ty, pos, aft, none⟩ :: rest) Q S := by
  rintro a w ⟨C, T, hs⟩
  unfold szT at hsz
  unfold bytesT at hby
  unfold zeroT at hz
  cases hi : P.info? e with
  | none => rw [hi] at hsz; cases hsz
  | some i =>
    rw [hi] at hsz hby hz
    simp only [Option.map_some, Option.some.injEq, Option.bind_some] at hsz hby hz
    cases hiz : i.zero with
    | none => rw [hiz] at hz; cases hz
    | some z =>
      rw [hiz] at hz
      simp only [Option.map_some, Option.some.injEq] at hz
      have hzc : z.cells = #[zv] := by apply Array.ext'; simpa using hz
      have hbi : (i.bytes : Int) * (n : Int) ≤ 281474976710656 := by
        rw [hby]
        have : ((bytes * n : Nat) : Int) ≤ 281474976710656 := by omega
        rwa [Int.natCast_mul] at this
      have hrun := run_make (P := P) w st e i z (sliceT_un hst) hi hiz k k' (n : Int) (n : Int) (by omega) (Int.le_refl _) hbi (by omega)
      rw [hzc, hsz, Nat.mul_one] at hrun
      simp only [Int.toNat_natCast] at hrun
      refine wpList_plain rfl (fun K hK => ?_)
      unfold Oper.wp
      have hex : (execOp a.eval ⟨some t, .makeSlice st x y, ty, pos, aft, none⟩).run P w = .ok (.value (.slice (some ⟨w.heap.size, 0, none⟩) n n)) (w.alloc (.cells (madeCells #[zv] n) e)) := by
        simp [execOp, Sem.run_bind, hs.evv hx, hs.evv hy, hrun]
      rw [hex]
      have hs' := hs.newObj (.cells (madeCells #[zv] n) e) (o := .box (List.replicate n (.v zv))) ⟨_, e, heap_alloc_at _ _, by
        rw [made_one]
        have := rels_vs (C := C) (List.replicate n zv)
        rwa [List.map_replicate] at this⟩
      exact hK _ _ (hr w.heap.size _ _ ⟨C, T, hs'.put ht (srel_v _)⟩)
end Go.Proofs.Ytljgdbgcleibjaa.A
namespace Go.Proofs.Ytljgdbgcleibjaa.A
open Go Go.RowKit
set_option linter.unusedVariables false
set_option linter.unusedSimpArgs false
set_option linter.unusedSectionVars false
variable {P : Program}
noncomputable def C0 (W : World) : CS := by
  classical
  exact fun b o => match W.cell? ⟨b, o, none⟩ with | some v => if v.oneCell' = true ∧ (PTC = true → isSl v = true → Plain W b) then some v else none | none => none
theorem C0_some {W : World} {b o : Nat} {v : Value} (h : W.cell? ⟨b, o, none⟩ = some v) (h1 : v.oneCell' = true) (h2 : PTC = true → isSl v = false) : C0 W b o = some v := by
  have : PTC = true → isSl v = true → Plain W b := fun g1 g2 => by rw [h2 g1] at g2; cases g2
  unfold C0; simp only [h]
  rw [if_pos ⟨h1, this⟩]
theorem com_C0 (W : World) : Com (C0 W) W := by
  refine ⟨fun b o v h => ?_, fun b o v h => ?_⟩ <;> unfold C0 at h <;> split at h
  · rename_i u hu; split at h; rename_i h1; cases h; exact ⟨hu, h1.2⟩; cases h
  · cases h
  · rename_i u hu; split at h; rename_i h1; cases h; exact h1.1; cases h
  · cases h
def noSl : AV → Bool | .sl _ _ => false | .v x => !isSl x | _ => true
theorem noSl_rel {C : CS} {c : AV} {u : Value} (r : Rel C c u) (h : noSl c = true) : isSl u = false := by
  cases r <;> simp_all [noSl, isSl]
def RD (P : Program) (t : TypeId) {α : Type} (E : α → List AV) (G : α → Prop) : Prop :=
  ∀ {H : Type} (enc : TypeId × Value → H) (W : World) (fuel : Nat) (cs : List Value) (x : DataW H × List MemPlace), DataW.trod enc P W 0 (fun _ => true) true fuel t cs = some x →
    ∃ a, G a ∧ Rels (C0 W) (E a) cs ∧ (E a).all AV.one = true
theorem RD.map {t : TypeId} {α β : Type} {E : α → List AV} {G : α → Prop} {E' : β → List AV} {G' : β → Prop} (h : RD P t E G) (f : α → β) (hf : ∀ a, G a → G' (f a) ∧ E' (f a) = E a) : RD P t E' G' := by
  intro H enc W fuel cs x hx
  obtain ⟨a, h1, h2, h3⟩ := h enc W fuel cs x hx
  obtain ⟨g1, g2⟩ := hf a h1
  exact ⟨f a, g1, by rw [g2]; exact h2, by rw [g2]; exact h3⟩
theorem rd_int {t : TypeId} {k : IntKind} (ht : P.underlying t = some (.int k)) : RD P t (fun n : Int => [.v (.int k n)]) (fun n => k.min ≤ n ∧ n ≤ k.max) := by
  intro H enc W fuel cs x hx
  obtain ⟨n, rfl, _, hw⟩ := DataW.trod_int ht hx
  exact ⟨n, by simpa [Lit.wf] using hw, Rels.cons (Rel.v _) Rels.nil, rfl⟩
theorem rd_bool {t : TypeId} (ht : P.underlying t = some .bool) : RD P t (fun b : Bool => [.v (.bool b)]) (fun _ => True) := by
  intro H enc W fuel cs x hx
  obtain ⟨n, rfl, _⟩ := DataW.trod_bool ht hx
  exact ⟨n, trivial, Rels.cons (Rel.v _) Rels.nil, rfl⟩
theorem cells_get {W : World} {a : Addr} {n : Nat} {cs : List Value} (h : W.cells? 0 a n = some cs) : cs.length = n ∧ ∀ j v, cs[j]? = some v → W.cell? (a.add j) = some v := by
  simp only [World.cells?, Nat.zero_le, if_true] at h
  have key : ∀ (l : List Nat) (cs : List Value), l.mapM (fun i => W.cell? (a.add i)) = some cs → cs.length = l.length ∧ ∀ (j : Nat) (v : Value), cs[j]? = some v → ∃ i : Nat, l[j]? = some i ∧ W.cell? (a.add i) = some v := by
    intro l
    induction l with
    | nil => intro cs h; simp at h; subst h; simp
    | cons i l ih =>
      intro cs h
      simp only [List.mapM_cons, Option.bind_eq_bind, Option.pure_def] at h
      cases h1 : W.cell? (a.add i) with
      | none => simp [h1] at h
      | some v =>
        cases h2 : l.mapM (fun i => W.cell? (a.add i)) with
        | none => simp [h1, h2] at h
        | some vs =>
          simp [h1, h2] at h
          subst h
          obtain ⟨g1, g2⟩ := ih vs h2
          refine ⟨by simp [g1], fun j u hj => ?_⟩
          cases j with
          | zero => simp at hj; subst hj; exact ⟨i, rfl, h1⟩
          | succ j => obtain ⟨i', k1, k2⟩ := g2 j u (by simpa using hj); exact ⟨i', by simpa using k1, k2⟩
  obtain ⟨h1, h2⟩ := key _ cs h
  refine ⟨by simpa using h1, fun j v hj => ?_⟩
  obtain ⟨i, k1, k2⟩ := h2 j v hj
  have : i = j := by
    have := (List.getElem?_eq_some_iff.1 k1).2; simpa using this.symm
  subst this; exact k2
theorem add_add (a : Addr) (i j : Nat) (hs : a.spot = none) : (a.add i).add j = ⟨a.block, a.off + i + j, none⟩ := by
  obtain ⟨b, o, s⟩ := a
  simp only at hs; subst hs
  rw [addr_add, addr_add]
theorem spot_none {W : World} {a : Addr} {i : Nat} {v : Value} (h : W.cell? (a.add i) = some v) : i = 0 → a.spot = none := by
  intro hi; subst hi
  simp only [Addr.add, if_true] at h
  unfold World.cell? at h
  split at h
  · split at h
    · cases h
    · rename_i hs; simpa using hs
  · cases h
theorem rd_slice {t e : TypeId} {α : Type} {E : α → List AV} {G : α → Prop} {sz : Nat} (ht : sliceT P t = some e) (hsz : szT P e = some (sz + 1)) (h : RD P e E G) (hE : ∀ a, (E a).length = sz + 1)
    (hns : PTC = true → ∀ a, (E a).all noSl = true := by first | (intro h; exact absurd h (by decide)) | (intro _ a; rfl) | (intro _ a; simp [noSl, isSl])) :
    RD P t (fun l : List α => [.sl (sz + 1) (l.map E)]) (fun l => ∀ x ∈ l, G x) := by
  intro H enc W fuel cs x hx
  have hc : P.cellsOf e = sz + 1 := by unfold szT at hsz; simp [Program.cellsOf, hsz]
  rcases DataW.trod_slice (sliceT_un ht) hx with ⟨rfl, _⟩ | ⟨a, len, cap, elems, rest, n, _, rfl, _, _, hlc, _, hel, hget, _⟩
  · exact ⟨[], by simp, Rels.cons (rel_sl_mk 0 0 rfl (Nat.le_refl _) (fun e => absurd rfl e) ⟨fun _ h => by simp at h, fun i cs j c h => by simp at h⟩) Rels.nil, rfl⟩
  · have hone : ∀ i, i < len → ∃ (y : α) (cs : List Value), G y ∧ Rels (C0 W) (E y) cs ∧ (E y).all AV.one = true ∧ W.cells? 0 (a.add (i * (sz + 1))) (sz + 1) = some cs := by
      intro i hi
      have hg := hget i hi
      rw [hc, List.getElem?_eq_getElem (by omega : i < elems.length)] at hg
      cases hcs : W.cells? 0 (a.add (i * (sz + 1))) (sz + 1) with
      | none => simp [hcs] at hg
      | some cs =>
        simp only [hcs, Option.bind_some] at hg
        obtain ⟨y, g1, g2, g3⟩ := h enc W n cs _ hg
        exact ⟨y, cs, g1, g2, g3, rfl⟩
    let f : Fin len → α := fun i => Classical.choose (hone i i.2)
    have hf : ∀ i : Fin len, ∃ cs : List Value, G (f i) ∧ Rels (C0 W) (E (f i)) cs ∧ (E (f i)).all AV.one = true ∧ W.cells? 0 (a.add (i * (sz + 1))) (sz + 1) = some cs := fun i => Classical.choose_spec (hone i i.2)
    have hl : (List.ofFn f).length = len := by simp
    refine ⟨List.ofFn f, fun y hy => ?_, Rels.cons ?_ Rels.nil, rfl⟩
    · obtain ⟨i, rfl⟩ := List.mem_ofFn.1 hy
      obtain ⟨cs, g1, _⟩ := hf i; exact g1
    · have hspot : len ≠ 0 → a.spot = none := by
        intro h0
        obtain ⟨cs, g1, g2, g3, g4⟩ := hf ⟨0, by omega⟩
        obtain ⟨k1, k2⟩ := cells_get g4
        obtain ⟨v, hv⟩ : ∃ v, cs[0]? = some v := ⟨_, List.getElem?_eq_getElem (by omega)⟩
        have := k2 0 v hv
        simp only [Nat.zero_mul] at this
        have h00 : (a.add 0) = a := by simp [Addr.add]
        rw [h00] at this
        exact spot_none this rfl
      refine rel_sl_mk a.block a.off (by simp) hlc (fun hne => ?_) ⟨fun cs hcs => ?_, fun i cs j c h1 h2 => ?_⟩
      · have h0 : len ≠ 0 := by intro h0; apply hne; rw [List.map_eq_nil_iff]; exact List.eq_nil_of_length_eq_zero (by omega)
        have := hspot h0
        obtain ⟨b, o, s⟩ := a; simp only at this; subst this; rfl
      · obtain ⟨y, _, rfl⟩ := List.mem_map.1 hcs; exact hE y
      · rw [List.getElem?_map] at h1
        have hi : i < len := by
          rcases Nat.lt_or_ge i len with h' | h'
          · exact h'
          · rw [List.getElem?_eq_none (by omega)] at h1; simp at h1
        rw [List.getElem?_eq_getElem (by omega : i < (List.ofFn f).length)] at h1
        simp at h1
        obtain ⟨cs', g1, g2, g3, g4⟩ := hf ⟨i, hi⟩
        subst h1
        obtain ⟨k1, k2⟩ := cells_get g4
        obtain ⟨u, hu, hr⟩ := g2.get h2
        have hcell := k2 j u hu
        rw [add_add a _ _ (hspot (by omega))] at hcell
        refine ⟨u, C0_some hcell (hr.one ?_) (fun hp => noSl_rel hr (List.all_eq_true.1 (hns hp _) c (List.mem_of_getElem? h2))), hr⟩
        exact List.all_eq_true.1 g3 c (List.mem_of_getElem? h2)
theorem fieldT_un {s f off ft : Nat} (hf : fieldT P s f = some (off, ft)) : ∃ fs x, P.underlying s = some (.struct fs) ∧ fs[f]? = some x ∧ x.offset = off ∧ x.type = ft := by
  unfold fieldT at hf
  cases hu : P.underlying s with
  | none => simp [hu] at hf
  | some d =>
    cases d with
    | struct fs =>
      cases hx : fs[f]? with
      | none => simp [hu, hx] at hf
      | some x => simp [hu, hx] at hf; exact ⟨fs, x, rfl, hx, hf.1, hf.2⟩
    | _ => simp [hu] at hf
theorem szT_cells {t n : Nat} (h : szT P t = some n) : P.cellsOf t = n := by unfold szT at h; simp [Program.cellsOf, h]
theorem field_trod {H : Type} {enc : TypeId × Value → H} {W : World} {fuel : Nat} {cs : List Value} {x : DataW H × List MemPlace} {t f off ft n : Nat} (hf : fieldT P t f = some (off, ft)) (hn : szT P ft = some n)
    (h : DataW.trod enc P W 0 (fun _ => true) true fuel t cs = some x) : cs.length = P.cellsOf t ∧ (∃ k y, DataW.trod enc P W 0 (fun _ => true) true k ft ((cs.drop off).take n) = some y) := by
  obtain ⟨fs, g, hu, hg, rfl, rfl⟩ := fieldT_un hf
  obtain ⟨xs, k, _, _, hl, hxs, hall⟩ := DataW.trod_struct hu h
  refine ⟨hl, k, ?_⟩
  have := hall f g hg
  rw [szT_cells hn] at this
  have hlt : f < xs.length := by have := (Array.getElem?_eq_some_iff.1 hg).1; omega
  exact ⟨xs[f], by rw [this]; exact List.getElem?_eq_getElem hlt⟩
theorem rd_struct2 {t t0 t1 n0 n1 : Nat} {α0 α1 : Type} {E0 : α0 → List AV} {E1 : α1 → List AV} {G0 : α0 → Prop} {G1 : α1 → Prop} (f0 : fieldT P t 0 = some (0, t0)) (f1 : fieldT P t 1 = some (n0, t1)) (hsz : szT P t = some (n0 + n1)) (c0 : szT P t0 = some n0) (c1 : szT P t1 = some n1) (r0 : RD P t0 E0 G0) (r1 : RD P t1 E1 G1) :
    RD P t (fun a : α0 × α1 => E0 a.1 ++ E1 a.2) (fun a => G0 a.1 ∧ G1 a.2) := by
  intro H enc W fuel cs x hx
  obtain ⟨hl0, k0, y0, hy0⟩ := field_trod f0 c0 hx
  obtain ⟨a0, g0, h0, o0⟩ := r0 enc W k0 _ y0 hy0
  obtain ⟨hl1, k1, y1, hy1⟩ := field_trod f1 c1 hx
  obtain ⟨a1, g1, h1, o1⟩ := r1 enc W k1 _ y1 hy1
  refine ⟨⟨a0, a1⟩, ⟨g0, g1⟩, ?_, by simp only [List.all_append, o0, o1, Bool.and_self]⟩
  rw [szT_cells hsz] at hl0
  have e : cs = (cs.drop (0)).take n0 ++ (cs.drop (n0)).take n1 := by
    apply List.ext_getElem?
    intro j
    simp only [List.getElem?_append, List.getElem?_take, List.getElem?_drop, List.length_append, List.length_take, List.length_drop, hl0]
    repeat' split
    all_goals first | (congr 1; omega) | omega | (rw [List.getElem?_eq_none (by omega)])
  rw [e]
  exact (h0).append h1
theorem rd_struct3 {t t0 t1 t2 n0 n1 n2 : Nat} {α0 α1 α2 : Type} {E0 : α0 → List AV} {E1 : α1 → List AV} {E2 : α2 → List AV} {G0 : α0 → Prop} {G1 : α1 → Prop} {G2 : α2 → Prop} (f0 : fieldT P t 0 = some (0, t0)) (f1 : fieldT P t 1 = some (n0, t1)) (f2 : fieldT P t 2 = some (n0 + n1, t2)) (hsz : szT P t = some (n0 + n1 + n2)) (c0 : szT P t0 = some n0) (c1 : szT P t1 = some n1) (c2 : szT P t2 = some n2) (r0 : RD P t0 E0 G0) (r1 : RD P t1 E1 G1) (r2 : RD P t2 E2 G2) :
    RD P t (fun a : α0 × α1 × α2 => E0 a.1 ++ E1 a.2.1 ++ E2 a.2.2) (fun a => G0 a.1 ∧ G1 a.2.1 ∧ G2 a.2.2) := by
  intro H enc W fuel cs x hx
  obtain ⟨hl0, k0, y0, hy0⟩ := field_trod f0 c0 hx
  obtain ⟨a0, g0, h0, o0⟩ := r0 enc W k0 _ y0 hy0
  obtain ⟨hl1, k1, y1, hy1⟩ := field_trod f1 c1 hx
  obtain ⟨a1, g1, h1, o1⟩ := r1 enc W k1 _ y1 hy1
  obtain ⟨hl2, k2, y2, hy2⟩ := field_trod f2 c2 hx
  obtain ⟨a2, g2, h2, o2⟩ := r2 enc W k2 _ y2 hy2
  refine ⟨⟨a0, a1, a2⟩, ⟨g0, g1, g2⟩, ?_, by simp only [List.all_append, o0, o1, o2, Bool.and_self]⟩
  rw [szT_cells hsz] at hl0
  have e : cs = (cs.drop (0)).take n0 ++ (cs.drop (n0)).take n1 ++ (cs.drop (n0 + n1)).take n2 := by
    apply List.ext_getElem?
    intro j
    simp only [List.getElem?_append, List.getElem?_take, List.getElem?_drop, List.length_append, List.length_take, List.length_drop, hl0]
    repeat' split
    all_goals first | (congr 1; omega) | omega | (rw [List.getElem?_eq_none (by omega)])
  rw [e]
  exact ((h0).append h1).append h2
theorem RD.arg {t : TypeId} {α : Type} {E : α → List AV} {G : α → Prop} (h : RD P t E G) {H : Type} {enc : TypeId × Value → H} {W : World} {v : Value} {d : DataW H} {p : List MemPlace} (hv : DataW.Trod enc P W 0 (fun _ => true) true t v d p) (hna : v.cells = #[v]) {av : α → AV} (hE : ∀ a, E a = [av a]) :
    ∃ a, G a ∧ Rel (C0 W) (av a) v := by
  obtain ⟨fuel, hf⟩ := hv
  obtain ⟨a, h1, h2, h3⟩ := h enc W fuel _ _ hf
  rw [hE, hna] at h2
  exact ⟨a, h1, h2.2 0 _ _ rfl rfl⟩
end Go.Proofs.Ytljgdbgcleibjaa.A
namespace Go.Proofs.Ytljgdbgcleibjaa.A
open Go Go.RowKit
set_option linter.unusedVariables false
set_option linter.unusedSimpArgs false
set_option linter.unusedSectionVars false
variable {P : Program} {w0 : Base} {C0 C : CS} {T : TS} {S S' : AState} {a : Act} {w : World} {ops : Array Oper} {rest : List Oper} {o : Oper} {Q : Exit → AState → Prop}
variable {t : Nat} {ty : TypeId} {pos : String} {aft : Array Edge}
theorem AW.keep {f : FuncId} {args : List AV} {objs : List OE} {R : AV → List OE → Prop} (h : AC P f args objs R) : AW P f args [] objs (fun r n => ∃ n', R r n' ∧ n = n' ++ objs) :=
  fun C w vals h1 h2 h3 => by
    have h3' : Objs C objs w := h3
    refine (h C w vals h1 h2 h3').mono fun e w' ⟨v, C', r, n, g1, g2, g3, g4, g5, g6, g7, g8⟩ => ⟨v, C', r, n ++ objs, g1, ⟨n, g2, rfl⟩, BelowX.of g3, fun b o hb _ => g4 b o hb, g5, g6, ⟨fun e he => ?_, ?_⟩, fun e he => ?_⟩
    · rcases List.mem_append.1 he with he | he
      · exact g7.1 e he
      · obtain ⟨k1, k2⟩ := h3'.1 e he
        have hlt := k1.nodef.1
        refine ⟨k1.mono (fun b o v hc => ?_) (g3.block _ hlt), fun o => by rw [g4 _ _ hlt]; exact k2 o⟩
        have hb : b < w.heap.size := by have := World.block_lt_of_cell? w _ (h1.1 _ _ _ hc).cell; simpa using this
        rw [g4 _ _ hb]; exact hc
    · exact List.pairwise_append.2 ⟨g7.2, h3'.2, fun e he e' he' hb => by have := g8 e he; have := (h3'.1 e' he').1.nodef.1; omega⟩
    · rcases List.mem_append.1 he with he | he
      · exact .inl (g8 e he)
      · exact .inr ⟨e, he, rfl⟩
theorem AW.ac {f : FuncId} {args : List AV} {R : AV → List OE → Prop} (h : AW P f args [] [] R) : AC P f args [] R :=
  fun C w vals h1 h2 h3 => (h C w vals h1 h2 h3).mono fun e w' ⟨v, C', r, n, g1, g2, g3, g4, g5, g6, g7, g8⟩ =>
    ⟨v, C', r, n, g1, g2, ⟨g3.os, g3.tape, g3.output, g3.size, fun k hk => g3.block k hk wb_nil⟩, fun b o hb => g4 b o hb wb_nil, g5, g6, g7, fun e he => (g8 e he).resolve_right wb_nil⟩
end Go.Proofs.Ytljgdbgcleibjaa.A
namespace Go.Proofs.Ytljgdbgcleibjaa.A
open Go Go.RowKit
set_option linter.unusedVariables false
set_option linter.unusedSimpArgs false
set_option linter.unusedSectionVars false
variable {P : Program} {w0 : Base} {C0 C : CS} {T : TS} {S S' : AState} {a : Act} {w : World} {ops : Array Oper} {rest : List Oper} {o : Oper} {Q : Exit → AState → Prop}
def backB (ops : Array Oper) : Bool := (List.range ops.size).all (fun i => (depsOf ops i).all fun j => decide (j < i))
def setB (B : Nat → Bool) (i : Nat) : Nat → Bool := fun j => cond (Nat.beq j i) true (B j)
theorem setB_same {B : Nat → Bool} {i : Nat} : setB B i i = true := by simp [setB]
theorem setB_ne {B : Nat → Bool} {i j : Nat} (h : Nat.beq j i = false) : setB B i j = B j := by simp [setB, h]
def AnyStep (P : Program) (w0 : Base) (C0 : CS) (ops : Array Oper) (I : (Nat → Bool) → AState → Prop) (i : Nat) : Prop :=
  ∃ o, ops[i]? = some o ∧ ∀ (B : Nat → Bool) (S : AState), B i = false → (∀ j, (depsOf ops i).contains j = true → B j = true) → (∀ j k, B j = true → (depsOf ops j).contains k = true → B k = true) → I B S →
    AWL P w0 C0 ops [o] (fun e S' => e = .normal ∧ I (setB B i) S') S
theorem any_wp {I : (Nat → Bool) → AState → Prop} (hb : backB ops = true) (hstep : ∀ i, i < ops.size → AnyStep P w0 C0 ops I i) (hend : ∀ B S, (∀ i, i < ops.size → B i = true) → I B S → Q .normal S) :
    ∀ (fuel : Nat) (listed : Array Bool) (a : Act) (w : World) (S1 : AState) (B : Nat → Bool), listed.size = ops.size → (List.range ops.size).countP (fun i => !listed.getD i false) ≤ fuel → (∀ j, j < ops.size → B j = listed.getD j false) → (∀ j, ops.size ≤ j → B j = false) → (∀ j k, B j = true → (depsOf ops j).contains k = true → B k = true) →
      I B S1 → Sim w0 C0 S1 a w → wpAny P .any ops (Lift w0 C0 Q) fuel listed a w := by
  have hback : ∀ i, i < ops.size → ∀ j ∈ depsOf ops i, j < i := fun i hi j hj => by
    have := List.all_eq_true.1 hb i (List.mem_range.2 hi)
    exact of_decide_eq_true (List.all_eq_true.1 this j hj)
  have fin : ∀ (fuel : Nat) (listed : Array Bool) (a : Act) (w : World) (S1 : AState) (B : Nat → Bool), listed.size = ops.size → (∀ j, j < ops.size → B j = listed.getD j false) → (∀ i, i < ops.size → listed.getD i false = true) → I B S1 → Sim w0 C0 S1 a w → wpAny P .any ops (Lift w0 C0 Q) fuel listed a w := by
    intro fuel listed a w S1 B hsz hB hall hI hs
    have hq : Lift w0 C0 Q .normal a w := ⟨S1, hs, hend B S1 (fun i hi => by rw [hB i hi]; exact hall i hi) hI⟩
    have hr : Region.ready .any ops listed = [] := by
      cases hr : Region.ready .any ops listed with
      | nil => rfl
      | cons j r =>
        have hj : j ∈ Region.ready .any ops listed := by rw [hr]; simp
        obtain ⟨k1, k2, _⟩ := ready_deps hj
        have := hall j k1
        have hjs : j < listed.size := by omega
        simp [Array.getD, hjs] at this k2
        rw [this] at k2; cases k2
    cases fuel with
    | zero => exact ⟨hr, hq⟩
    | succ f => exact ⟨fun _ => hq, fun j hj => by rw [hr] at hj; cases hj⟩
  intro fuel
  induction fuel with
  | zero =>
    intro listed a w S1 B hsz hf hB hB2 hcl hI hs
    have hz : (List.range ops.size).countP (fun j => !listed.getD j false) = 0 := by omega
    refine fin 0 listed a w S1 B hsz hB (fun j hj => ?_) hI hs
    have := List.countP_eq_zero.1 hz j (List.mem_range.2 hj)
    simpa using this
  | succ fuel ih =>
    intro listed a w S1 B hsz hf hB hB2 hcl hI hs
    by_cases hall : ∀ i, i < ops.size → listed.getD i false = true
    · exact fin _ listed a w S1 B hsz hB hall hI hs
    refine ⟨fun hr => absurd (fun i hi => all_listed hsz hback hr i hi) hall, fun i hi => ?_⟩
    obtain ⟨h1, h2, h3⟩ := ready_deps hi
    have hi' : i < listed.size := by omega
    have hlf : listed.getD i false = false := by simp [Array.getD, hi'] at h2 ⊢; exact h2
    obtain ⟨o, ho, hst⟩ := hstep i h1
    refine wpOp_of_awl ho (hst B S1 (by rw [hB i h1]; exact hlf) (fun j hj => by
      have hj' : j ∈ depsOf ops i := by simpa using hj
      rw [hB j (by have := hback i h1 j hj'; omega)]; exact h3 j hj') hcl hI) hs (fun a' w' S' hS' hs' => ?_)
    have hc := count_set (n := ops.size) h1 hi' hlf
    refine ih _ a' w' S' (setB B i) (by simp [hsz]) (by omega) (fun j hj => ?_) (fun j hj => ?_) (fun j k hj hk => ?_) hS' hs'
    · by_cases e : j = i
      · subst e; rw [setB_same]; simp [Array.getD, hi']
      · have hbn : Nat.beq j i = false := by cases h : Nat.beq j i with | false => rfl | true => exact absurd (Nat.eq_of_beq_eq_true h) e
        rw [setB_ne hbn, getD_set_ne false (fun h => e h.symm)]; exact hB j hj
    · have hbn : Nat.beq j i = false := by cases h : Nat.beq j i with | false => rfl | true => exact absurd (Nat.eq_of_beq_eq_true h) (by omega)
      rw [setB_ne hbn]; exact hB2 j hj
    · have key : B k = true := by
        by_cases e : j = i
        · subst e
          have hk' : k ∈ depsOf ops j := by simpa using hk
          rw [hB k (by have := hback j h1 k hk'; omega)]; exact h3 k hk'
        · have hbn : Nat.beq j i = false := by cases h : Nat.beq j i with | false => rfl | true => exact absurd (Nat.eq_of_beq_eq_true h) e
          rw [setB_ne hbn] at hj; exact hcl j k hj hk
      unfold setB
      cases Nat.beq k i <;> simp [key]
theorem awp_any {id : Nat} {l : List Oper} (I : (Nat → Bool) → AState → Prop) (hm : P.follows .mixedOrders = true) (hb : backB l.toArray = true) (h0 : I (fun _ => false) S)
    (hstep : Steps (AnyStep P w0 C0 l.toArray I) l.length) (hend : ∀ B S, (∀ i, i < l.length → B i = true) → I B S → Q .normal S) : AWP P w0 C0 (.region id l.toArray true) Q S := by
  intro a w hs
  refine wp_region_any hm (any_wp hb (fun i hi => hstep.all i (by simpa using hi)) (fun B S h hI => hend B S (fun i hi => h i (by simpa using hi)) hI) _ _ a _ S (fun _ => false) (by simp) ?_ (fun j hj => by simp [Array.getD]) (fun _ _ => rfl) (fun j k h => by cases h) h0 ?_)
  · have := List.countP_le_length (p := fun i => !(Array.replicate l.toArray.size false).getD i false) (l := List.range l.toArray.size); simpa using this
  · obtain ⟨C, T, hs⟩ := hs
    exact ⟨C, T, hs.drew⟩
theorem get_put {t k : Nat} {x : SV} : (S.put k x).get t = if k = t then some x else S.get t := by simp only [AState.get, AState.put, find_cons]
theorem get_put_same {t : Nat} {x : SV} : (S.put t x).get t = some x := by rw [get_put, if_pos rfl]
theorem imp_boxLe (i : Nat) {b : Nat} {cs cs' : List AV} (hi : S.objs[i]? = some ⟨b, true, .box cs⟩) (h : LeCells cs cs') : Imp w0 C0 S ⟨S.nt, S.slots, S.objs.set i ⟨b, true, .box cs'⟩⟩ := by
  rintro a w ⟨C, T, hs⟩
  obtain ⟨barr, bt, b1, b2⟩ := (hs.objs _ (mem_of_get hi)).1
  exact ⟨C, T, hs.setObj hi (w' := w) (Nat.le_refl _) rfl rfl rfl rfl (fun _ _ => rfl) ⟨barr, bt, b1, h.rels b2⟩⟩
end Go.Proofs.Ytljgdbgcleibjaa.A
namespace Go.Proofs.Ytljgdbgcleibjaa.A
open Go Go.RowKit
set_option linter.unusedVariables false
set_option linter.unusedSimpArgs false
set_option linter.unusedSectionVars false
variable {P : Program} {w0 : Base} {C0 C : CS} {T : TS} {S S' : AState} {a : Act} {w : World} {ops : Array Oper} {rest : List Oper} {o : Oper} {Q : Exit → AState → Prop}
variable {t : Nat} {ty ty' : TypeId} {pos : String} {aft : Array Edge}
inductive SepAV (p : Value → Bool) : AV → Prop where
  | v (x : Value) : SepAV p (.v x)
  | sl (sz : Nat) (l : List (List AV)) (h : ∀ cs ∈ l, ∀ c ∈ cs, ∃ v, c = .v v ∧ p v = true) : SepAV p (.sl sz l)
theorem SepAV.rel {p : Value → Bool} {x : AV} (h : SepAV p x) {b : Nat} (hb : ∀ o v, C b o = some v → p v = false) {u : Value} (r : Rel C x u) : Rel (fun b' o => if b' = b then none else C b' o) x u := by
  cases h with
  | v x => cases r; exact .v _
  | sl sz l h =>
    obtain ⟨A, cap, b', o', rfl, q1, q2, q3⟩ := rel_sl_inv r
    refine rel_sl_mk b' o' rfl q1 q2 ⟨q3.1, fun i cs j c h1 h2 => ?_⟩
    obtain ⟨u1, hu1, hu2⟩ := q3.2 i cs j c h1 h2
    obtain ⟨v, rfl, hv⟩ := h cs (List.mem_of_getElem? h1) c (List.mem_of_getElem? h2)
    cases hu2
    have hne : b' ≠ b := fun e => by subst e; rw [hb _ _ hu1] at hv; cases hv
    exact ⟨_, by simp only [hne, if_false]; exact hu1, .v _⟩
theorem flat_set {α : Type} {f : α → List AV} {n : Nat} (hf : ∀ x, (f x).length = n) : ∀ {l : List α} {k : Nat} {x : α} {ext : List AV}, k < l.length → ((l.map f).flatten ++ ext).take (0 + k * n) ++ f x ++ ((l.map f).flatten ++ ext).drop (0 + k * n + n) = ((l.set k x).map f).flatten ++ ext
  | [], k, x, ext, h => by simp at h
  | y :: l, 0, x, ext, h => by
    simp only [List.set_cons_zero, List.map_cons, List.flatten_cons, Nat.zero_mul, Nat.add_zero, List.take_zero, List.nil_append, Nat.zero_add]
    rw [List.append_assoc, List.append_assoc, List.drop_left' (hf y)]
  | y :: l, k + 1, x, ext, h => by
    have ih := flat_set hf (l := l) (k := k) (x := x) (ext := ext) (by simpa using h)
    have e : 0 + (k + 1) * n = n + (0 + k * n) := by rw [Nat.succ_mul]; omega
    rw [e]
    simp only [List.set_cons_succ, List.map_cons, List.flatten_cons, List.append_assoc]
    rw [show n + (0 + k * n) = (f y).length + (0 + k * n) by rw [hf], List.take_length_add_append, show (f y).length + (0 + k * n) + n = (f y).length + (0 + k * n + n) by omega, List.drop_length_add_append]
    rw [List.append_assoc] at ih
    rw [List.append_assoc, ih]
end Go.Proofs.Ytljgdbgcleibjaa.A
namespace Go.Proofs.Ytljgdbgcleibjaa.A
open Go Go.RowKit
set_option linter.unusedVariables false
set_option linter.unusedSimpArgs false
set_option linter.unusedSectionVars false
variable {P : Program} {w0 : Base} {C0 C : CS} {T : TS} {S S' : AState} {a : Act} {w : World} {ops : Array Oper} {rest : List Oper} {o : Oper} {Q : Exit → AState → Prop}
variable {t : Nat} {ty ty' : TypeId} {pos : String} {aft : Array Edge}
inductive PN : AV → Bool → Prop where
  | nil : PN (.v (.pointer none)) true
  | v (A : Addr) : PN (.v (.pointer (some A))) false
  | pt (b : Nat) (cs : List AV) : PN (.pt b cs) false
  | cp (cs : List AV) : PN (.cp cs) false
theorem PN.rel {x : AV} {n : Bool} (h : PN x n) {u : Value} (r : Rel C x u) : ∃ A : Option Addr, u = .pointer A ∧ A.isNone = n := by
  cases h with
  | nil => cases r; exact ⟨_, rfl, rfl⟩
  | v A => cases r; exact ⟨_, rfl, rfl⟩
  | pt b cs => obtain ⟨rfl, _⟩ := rel_pt_inv r; exact ⟨_, rfl, rfl⟩
  | cp cs => obtain ⟨b, o, rfl, _⟩ := rel_cp_inv r; exact ⟨_, rfl, rfl⟩
theorem run_equalIn_p (w : World) (d : Nat) (t e : TypeId) (A : Option Addr) (h : P.underlying t = some (.pointer e)) :
    (Op.equalIn (d + 1) t (.pointer A) (.pointer none)).run P w = .ok A.isNone w := by
  cases A <;> simp [Op.equalIn, Sem.run_bind, run_underlying h]
theorem eqGuard_p (op : BinOp) (t : TypeId) (p q : Operand) (A B : Option Addr) : eqGuard op t p q (.pointer A) (.pointer B) = pure () := by
  cases op <;> simp [eqGuard]
theorem r_pnil {xt yt e : TypeId} {x : Operand} {sv : SV} {n : Bool} (hx : S.ev x = some sv) (hn : PN sv.av n) (hu : P.underlying xt = some (.pointer e)) (ht : Nat.blt t S.nt = true)
    (hr : AWL P w0 C0 ops rest Q (S.put t (.a (.v (.bool n))))) : AWL P w0 C0 ops (⟨some t, .binOp .eql xt x (.const (.pointer none)) yt, ty, pos, aft, none⟩ :: rest) Q S :=
  awl_pure ht (fun C T a w hs => by
    obtain ⟨A, hv, rfl⟩ := hn.rel (hs.ev hx).av
    refine ⟨.bool A.isNone, ?_, srel_v _⟩
    have : (binOp .eql xt (.pointer A) (.pointer none)).run P w = .ok (.bool A.isNone) w := by
      simp only [binOp]
      simp [Op.equal, Op.maxDepth, run_equalIn_p w 9999 xt e A hu]
    simp [execOp, hv, show a.eval (.const (.pointer none)) = .pointer none from rfl, eqGuard_p, this]) hr
theorem r_pnnil {xt yt e : TypeId} {x : Operand} {sv : SV} {n : Bool} (hx : S.ev x = some sv) (hn : PN sv.av n) (hu : P.underlying xt = some (.pointer e)) (ht : Nat.blt t S.nt = true)
    (hr : AWL P w0 C0 ops rest Q (S.put t (.a (.v (.bool !n))))) : AWL P w0 C0 ops (⟨some t, .binOp .neq xt x (.const (.pointer none)) yt, ty, pos, aft, none⟩ :: rest) Q S :=
  awl_pure ht (fun C T a w hs => by
    obtain ⟨A, hv, rfl⟩ := hn.rel (hs.ev hx).av
    refine ⟨.bool !A.isNone, ?_, srel_v _⟩
    have : (binOp .neq xt (.pointer A) (.pointer none)).run P w = .ok (.bool !A.isNone) w := by
      simp only [binOp]
      simp [Op.equal, Op.maxDepth, run_equalIn_p w 9999 xt e A hu]
    simp [execOp, hv, show a.eval (.const (.pointer none)) = .pointer none from rfl, eqGuard_p, this]) hr
theorem r_nilCheck {x : Operand} {c : AV} (hx : S.ev x = some (.a c)) (hn : PN c false) (ht : Nat.blt t S.nt = true)
    (hr : AWL P w0 C0 ops rest Q (S.put t (.a c))) : AWL P w0 C0 ops (⟨some t, .nilCheck x, ty, pos, aft, none⟩ :: rest) Q S :=
  awl_pure ht (fun C T a w hs => by
    have h := hs.ev hx
    obtain ⟨A, hv, hA⟩ := hn.rel h
    rw [hv] at h
    cases A with
    | none => cases hA
    | some A => exact ⟨.pointer (some A), by simp [execOp, hv], h⟩) hr
theorem r_fieldpt {x : Operand} {s f off ft n b : Nat} {cs : List AV} (hx : S.ev x = some (.a (.pt b cs))) (hf : fieldT P s f = some (off, ft)) (hn : szT P ft = some (n + 1)) (ht : Nat.blt t S.nt = true)
    (hr : AWL P w0 C0 ops rest Q (S.put t (.a (.cp (cs.drop off))))) : AWL P w0 C0 ops (⟨some t, .fieldAddr s x f, ty, pos, aft, none⟩ :: rest) Q S :=
  awl_pure ht (fun C T a w hs => by
    have h := hs.ev hx
    generalize hv : a.eval x = u at h
    obtain ⟨rfl, hc⟩ := rel_pt_inv h
    refine ⟨.pointer (some ⟨b, 0 + off, none⟩), by simp [execOp, hv, run_fieldAt hf hn], rel_cp_mk (fun j c hj => ?_)⟩
    rw [List.getElem?_drop] at hj
    have := hc _ _ hj
    rwa [Nat.zero_add]) hr
theorem imp_commitP (i t : Nat) {b : Nat} {cs : List AV} (ht : S.get t = some (.a (.v (.pointer (some ⟨b, 0, none⟩))))) (hi : S.objs[i]? = some ⟨b, true, .box cs⟩) (h1 : cs.all AV.one = true) (htn : Nat.blt t S.nt = true) :
    Imp w0 C0 S (AState.put ⟨S.nt, S.slots, S.objs.eraseIdx i⟩ t (.a (.pt b cs))) := by
  rintro a w hs
  have hv : a.tmps.getD t undef = .pointer (some ⟨b, 0, none⟩) := by
    obtain ⟨C, T, hs⟩ := hs
    have := hs.slots _ _ ht
    generalize a.tmps.getD t undef = u at this ⊢
    cases this; rfl
  obtain ⟨C, T, hs'⟩ := imp_commit i t ht hi h1 htn a w hs
  refine ⟨C, T, hs'.below, hs'.com, hs'.one, hs'.old, hs'.objs, hs'.apart, hs'.toks, hs'.tokne, hs'.size, fun t' z hz => ?_, hs'.defers, hs'.dr⟩
  simp only [AState.get, AState.put, find_cons] at hz
  split at hz
  · rename_i e; subst e; cases hz
    have h2 := hs'.slots t (.a (.cp (cs.drop 0))) (by simp [AState.get, AState.put, find_cons])
    rw [hv] at h2 ⊢
    obtain ⟨b', o', hb', hc⟩ := rel_cp_inv h2
    cases hb'
    exact rel_pt_mk (fun j c hj => by have := hc j c (by simpa using hj); rwa [Nat.zero_add] at this)
  · rename_i e
    exact hs'.slots t' z (by simp only [AState.get, AState.put, find_cons, if_neg e]; exact hz)
theorem imp_know (t t' : Nat) {x y z : AV} (hx : S.get t' = some (.a x)) (hy : S.get t = some (.a y)) (h : ∀ (C : CS) (u v : Value), Rel C x u → Rel C y v → Rel C z v) : Imp w0 C0 S (S.put t (.a z)) := by
  rintro a w ⟨C, T, hs⟩
  refine ⟨C, T, hs.below, hs.com, hs.one, hs.old, hs.objs, hs.apart, hs.toks, hs.tokne, hs.size, fun t' z' hz => ?_, hs.defers, hs.dr⟩
  simp only [AState.get, AState.put, find_cons] at hz
  split at hz
  · rename_i e; subst e; cases hz; exact h C _ _ (hs.slots _ _ hx) (hs.slots _ _ hy)
  · exact hs.slots _ _ hz
theorem awp_fact {φ : Prop} {c : Code} (h : ∀ C T a w, SimC w0 C0 C T S a w → φ) (hr : φ → AWP P w0 C0 c Q S) : AWP P w0 C0 c Q S := fun a w hs => by
  obtain ⟨C, T, hs'⟩ := hs
  exact hr (h C T a w hs') a w ⟨C, T, hs'⟩
theorem plain_of {b : Nat} (hp : PTC = true) (hc : Com C w) (h : PtrOk C b) : Plain w b := by
  obtain ⟨A, n, c, g⟩ := h
  exact (hc.1 _ _ _ g).pl hp rfl
theorem run_sameAddr_plain {b b' : Nat} (h : Plain w b) (h' : Plain w b') : (sameAddr ⟨b, 0, none⟩ ⟨b', 0, none⟩).run P w = .ok (decide (b = b')) w := by
  obtain ⟨arr, t, h1⟩ := h
  obtain ⟨arr', t', h1'⟩ := h'
  by_cases hb : b = b'
  · subst hb; simp [sameAddr]
  · have hsh : w.shape? b = some (t, arr.size) := by simp [World.shape?, h1]
    have hsh' : w.shape? b' = some (t', arr'.size) := by simp [World.shape?, h1']
    have hfr : ∀ o, w.frozen? ⟨b, o, none⟩ = false := fun o => by simp [World.frozen?, h1]
    have hfr' : ∀ o, w.frozen? ⟨b', o, none⟩ = false := fun o => by simp [World.frozen?, h1']
    simp [sameAddr, hb, frozen, noView, viewAt, mayBeOne, stringish, shape, Sem.run, hsh, hsh', hfr, hfr']
theorem run_equal_ptr {kt e n : Nat} (hd : P.underlying kt = some (.pointer e)) (hn : szT P e = some (n + 1)) {b b' : Nat} (h : Plain w b) (h' : Plain w b') :
    (Op.equal kt (ptr b) (ptr b')).run P w = .ok (decide (b = b')) w := by
  have h9 : ∀ d, (Op.equalIn (d + 1) kt (ptr b) (ptr b')).run P w = .ok (decide (b = b')) w := fun d => by
    simp [Op.equalIn, ptr, Sem.run_bind, run_underlying hd, run_sz hn, run_sameAddr_plain h h']
  simp [Op.equal, Op.maxDepth, h9 9999]
theorem find_ptr {kt e n : Nat} (hd : P.underlying kt = some (.pointer e)) (hn : szT P e = some (n + 1)) {ents : List MapEntry} {ks : List Nat} {k : Nat} (hk : Plain w k) (hks : ∀ x ∈ ks, Plain w x) (h : ents.map (·.key) = ks.map ptr) :
    (Instr.findKey kt (ptr k) ents).run P w = .ok ((mfind ks k).bind fun i => (ents[i]?).map fun e => (i, e.val)) w := by
  have hask : ∀ (ents : List MapEntry) (ks : List Nat) (i0 : Nat), (∀ x ∈ ks, Plain w x) → ents.map (·.key) = ks.map ptr → (Instr.findAsking kt (ptr k) ents i0).run P w = .ok ((mfind ks k).bind fun i => (ents[i]?).map fun e => (i0 + i, e.val)) w := by
    intro ents
    induction ents with
    | nil => intro ks i0 _ h; cases ks with | nil => rfl | cons _ _ => simp at h
    | cons e es ih =>
      intro ks i0 hp h
      cases ks with
      | nil => simp at h
      | cons x ks =>
        simp only [List.map_cons, List.cons.injEq] at h
        unfold Instr.findAsking
        simp only [Sem.run_bind, h.1, run_equal_ptr hd hn hk (hp x List.mem_cons_self), Result.andThen]
        by_cases hx : x = k
        · simp [mfind, hx]
        · have hx' : ¬ k = x := fun e => hx e.symm
          simp only [hx', decide_false, Bool.false_eq_true, if_false]
          rw [ih ks (i0 + 1) (fun y hy => hp y (List.mem_cons_of_mem _ hy)) h.2]
          cases hm : mfind ks k with
          | none => simp [mfind, hx, hm]
          | some i => simp [mfind, hx, hm, Nat.add_assoc, Nat.add_comm 1 i]
  have hnow : ents = [] ∨ Instr.findNow (.pointer e) (ptr k) ents 0 = none := by
    cases ents with
    | nil => exact .inl rfl
    | cons _ _ => exact .inr rfl
  rcases hnow with rfl | hnow
  · cases ks with
    | nil => simp [Instr.findKey, run_underlying hd, Instr.findNow, mfind]
    | cons _ _ => simp at h
  · have := hask ents ks 0 hks h
    simp only [Nat.zero_add] at this
    simp only [Instr.findKey, Sem.run_bind, run_underlying hd, Result.andThen, hnow]
    exact this
def sset (ks : List Nat) (k : Nat) : List Nat := if k ∈ ks then ks else ks ++ [k]
theorem mfindN_none : ∀ {ks : List Nat} {k : Nat}, mfind ks k = none → k ∉ ks
  | [], k, _ => by simp
  | x :: r, k, h => by
    unfold mfind at h
    split at h
    · cases h
    · rename_i hx
      simp at h
      have := mfindN_none h
      simp only [List.mem_cons, not_or]
      exact ⟨fun e => hx e.symm, this⟩
theorem mfindN_some : ∀ {ks : List Nat} {k i : Nat}, mfind ks k = some i → ks[i]? = some k
  | [], k, i, h => by simp [mfind] at h
  | x :: r, k, i, h => by
    unfold mfind at h
    split at h
    · rename_i hx; cases h; simp [hx]
    · cases hr : mfind r k with
      | none => simp [hr] at h
      | some j => simp [hr] at h; subst h; simpa using mfindN_some hr
theorem checkKey_ptr {kt e : Nat} (hd : P.underlying kt = some (.pointer e)) (em : Bool) (k : Nat) (w : World) : (Instr.checkKey em 10000 kt (ptr k)).run P w = .ok () w := by
  rw [show (10000 : Nat) = 9999 + 1 from rfl]
  unfold Instr.checkKey
  simp [Sem.run_bind, run_underlying hd, ptr]
structure PtrMap (P : Program) (mt kt et e n : Nat) : Prop where
  mt : mapT P mt = some (kt, et)
  kt : P.underlying kt = some (.pointer e)
  sz : szT P e = some (n + 1)
  z : ZeroAV P et (.v (.bool false))
def PtAV (x : AV) (b : Nat) : Prop := ∃ sz l cs, x = .pt b (.sl sz l :: cs)
theorem PtAV.ok {x : AV} {b : Nat} (h : PtAV x b) {u : Value} (r : Rel C x u) : u = ptr b ∧ PtrOk C b := by
  obtain ⟨sz, l, cs, rfl⟩ := h
  obtain ⟨rfl, h⟩ := rel_pt_inv r
  obtain ⟨u, h1, h2⟩ := h 0 _ rfl
  obtain ⟨A, cap, b', o, rfl, _⟩ := rel_sl_inv h2
  exact ⟨rfl, _, _, _, h1⟩
theorem run_setLook {mt kt et e n : Nat} (M : PtrMap P mt kt et e n) (hp : PTC = true) (hc : Com C w) {b k : Nat} {ks : List Nat} (h : ObjRel C b (.nset ks) w) (hk : PtrOk C k) :
    (Instr.lookup mt (.map (some b)) (ptr k) false).run P w = .ok (.bool (decide (k ∈ ks))) w := by
  obtain ⟨ents, clock, h1, h2, h3, h4, h5, h6⟩ := h
  have hf := find_ptr (P := P) M.kt M.sz (plain_of hp hc hk) (fun x hx => plain_of hp hc (h6 x hx)) h2
  have hck := fun em => checkKey_ptr (P := P) M.kt em k w
  cases hm : mfind ks k with
  | none =>
    obtain ⟨zv, hz1, hz2⟩ := M.z.run w C
    cases hz2
    simp [Instr.lookup, run_underlying (mapT_un M.mt), run_getMap h1, hck, hf, hm, hz1, mfindN_none hm]
  | some i =>
    have hi := mfindN_some hm
    have hil : i < ents.toList.length := by have := congrArg List.length h2; have := (List.getElem?_eq_some_iff.1 hi).1; simp at *; omega
    obtain ⟨e0, hei⟩ : ∃ e0, ents.toList[i]? = some e0 := ⟨_, List.getElem?_eq_getElem hil⟩
    have hei' : ents[i]? = some e0 := by simpa using hei
    have hv := h3 e0 (List.mem_of_getElem? hei)
    simp [Instr.lookup, run_underlying (mapT_un M.mt), run_getMap h1, hck, hf, hm, hei', hv, List.mem_of_getElem? hi]
theorem run_setUpd {mt kt et e n : Nat} (M : PtrMap P mt kt et e n) (hp : PTC = true) (hc : Com C w) {b k : Nat} {ks : List Nat} (h : ObjRel C b (.nset ks) w) (hk : PtrOk C k) :
    ∃ ents' clock', (Instr.mapUpdate mt (.map (some b)) (ptr k) (.bool true)).run P w = .ok () { w with heap := w.heap.setIfInBounds b (.map ents' clock') } ∧
      ents'.toList.map (·.key) = (sset ks k).map ptr ∧ (∀ e ∈ ents'.toList, e.val = .bool true) ∧ (ents'.toList.map (·.born)).Pairwise (· < ·) ∧ (∀ e ∈ ents'.toList, e.born < clock') ∧ ∀ k' ∈ sset ks k, PtrOk C k' := by
  obtain ⟨ents, clock, h1, h2, h3, h4, h5, h6⟩ := h
  have hf := find_ptr (P := P) M.kt M.sz (plain_of hp hc hk) (fun x hx => plain_of hp hc (h6 x hx)) h2
  have hck := fun em => checkKey_ptr (P := P) M.kt em k w
  have h7 : ∀ k' ∈ sset ks k, PtrOk C k' := fun k' hk' => by
    unfold sset at hk'
    split at hk'
    · exact h6 k' hk'
    · rcases List.mem_append.1 hk' with h | h
      · exact h6 k' h
      · obtain rfl := List.mem_singleton.1 h; exact hk
  cases hm : mfind ks k with
  | none =>
    refine ⟨ents.push { key := ptr k, val := .bool true, born := clock }, clock + 1, ?_, ?_, ?_, ?_, ?_, h7⟩
    · simp [Instr.mapUpdate, run_underlying (mapT_un M.mt), run_getMap h1, run_setMap h1, hck, hf, hm]
    · simp [sset, mfindN_none hm, h2]
    · intro e he
      simp only [Array.toList_push, List.mem_append, List.mem_singleton] at he
      rcases he with he | rfl
      · exact h3 e he
      · rfl
    · simp only [Array.toList_push, List.map_append, List.map_cons, List.map_nil]
      refine List.pairwise_append.2 ⟨h4, by simp, fun p hp q hq => ?_⟩
      obtain ⟨e, he, rfl⟩ := List.mem_map.1 hp
      simp at hq; subst hq; exact h5 e he
    · intro e he
      simp only [Array.toList_push, List.mem_append, List.mem_singleton] at he
      rcases he with he | rfl
      · have := h5 e he; omega
      · simp
  | some i =>
    have hi := mfindN_some hm
    have hil : i < ents.toList.length := by have := congrArg List.length h2; have := (List.getElem?_eq_some_iff.1 hi).1; simp at *; omega
    obtain ⟨e0, hei⟩ : ∃ e0, ents.toList[i]? = some e0 := ⟨_, List.getElem?_eq_getElem hil⟩
    have hei' : ents[i]? = some e0 := by simpa using hei
    have hv := h3 e0 (List.mem_of_getElem? hei)
    have hkey : e0.key = ptr k := by
      have := congrArg (fun l => l[i]?) h2
      simp only [List.getElem?_map, hei, hi] at this
      simpa using this
    have hsame : ents.modify i (fun e => { e with key := ptr k, val := .bool true }) = ents := by
      apply Array.ext'
      rw [Array.toList_modify]
      apply List.ext_getElem?
      intro j
      rw [List.getElem?_modify]
      by_cases hij : i = j
      · subst hij
        rw [hei]
        simp only [if_true, Option.map_some]
        obtain ⟨k0, v0, b0⟩ := e0
        simp only at hkey hv
        subst hkey hv
        rfl
      · simp [hij]
    have hst : ∀ w, (Instr.keyThatStays (ptr k) (ptr k)).run P w = .ok (ptr k) w := fun w => by simp [Instr.keyThatStays, ptr, Instr.sameBits]
    have hss : sset ks k = ks := by simp [sset, List.mem_of_getElem? hi]
    refine ⟨ents, clock, ?_, by rw [hss]; exact h2, h3, h4, h5, h7⟩
    simp [Instr.mapUpdate, run_underlying (mapT_un M.mt), run_getMap h1, run_setMap h1, hck, hf, hm, hei', hkey, hst, hsame]
theorem r_makeSet {mt : TypeId} (ht : Nat.blt t S.nt = true)
    (hr : ∀ b, AWL P w0 C0 ops rest Q (AState.put ⟨S.nt, S.slots, ⟨b, true, .nset []⟩ :: S.objs⟩ t (.a (.v (.map (some b)))))) :
    AWL P w0 C0 ops (⟨some t, .makeMap mt none, ty, pos, aft, none⟩ :: rest) Q S := by
  rintro a w ⟨C, T, hs⟩
  have hrun : (execOp a.eval ⟨some t, .makeMap mt none, ty, pos, aft, none⟩).run P w = .ok (.value (.map (some w.heap.size))) (w.alloc (.map #[] 0)) := by
    have : (Instr.makeMap mt none).run P w = .ok (.map (some w.heap.size)) (w.alloc (.map #[] 0)) := rfl
    simp [execOp, this]
  refine wpList_plain rfl (fun K hK => ?_)
  unfold Oper.wp
  rw [hrun]
  have hs' := hs.newObj (.map #[] 0) (o := .nset []) ⟨#[], 0, heap_alloc_at _ _, rfl, by simp, by simp, by simp, by simp⟩
  exact hK _ _ (hr w.heap.size _ _ ⟨C, T, hs'.put ht (srel_v _)⟩)
theorem r_setHas (i : Nat) {mt kt et e n : Nat} (M : PtrMap P mt kt et e n) (hp : PTC = true) {x y : Operand} {sy : SV} {b k : Nat} {rw' : Bool} {ks : List Nat} (hx : S.ev x = some (.a (.v (.map (some b))))) (hi : S.objs[i]? = some ⟨b, rw', .nset ks⟩) (hy : S.ev y = some sy) (hk : PtAV sy.av k) (ht : Nat.blt t S.nt = true)
    (hr : AWL P w0 C0 ops rest Q (S.put t (.a (.v (.bool (decide (k ∈ ks))))))) : AWL P w0 C0 ops (⟨some t, .lookup mt x y false, ty, pos, aft, none⟩ :: rest) Q S :=
  awl_pure ht (fun C T a w hs => by
    obtain ⟨g1, g2⟩ := hk.ok (hs.ev hy).av
    have := run_setLook M hp ⟨hs.com, hs.one⟩ (hs.objs _ (mem_of_get hi)).1 g2
    exact ⟨.bool (decide (k ∈ ks)), by simp [execOp, hs.evv hx, g1, this], srel_v _⟩) hr
theorem r_setIn (i : Nat) {mt kt et e n : Nat} (M : PtrMap P mt kt et e n) (hp : PTC = true) {x y : Operand} {sy : SV} {b k : Nat} {ks : List Nat} (hx : S.ev x = some (.a (.v (.map (some b))))) (hi : S.objs[i]? = some ⟨b, true, .nset ks⟩) (hy : S.ev y = some sy) (hk : PtAV sy.av k)
    (hr : AWL P w0 C0 ops rest Q ⟨S.nt, S.slots, S.objs.set i ⟨b, true, .nset (sset ks k)⟩⟩) : AWL P w0 C0 ops (⟨none, .mapUpdate mt x y (.const (.bool true)), ty, pos, aft, none⟩ :: rest) Q S := by
  refine awl_opu rfl rfl (fun C T a w hs => ?_) hr
  obtain ⟨q1, q2⟩ := hk.ok (hs.ev hy).av
  have hb : b < w.heap.size := hs.objlt (mem_of_get hi)
  obtain ⟨ents', clock', hrun, g1, g2, g3, g4, g5⟩ := run_setUpd M hp ⟨hs.com, hs.one⟩ (hs.objs _ (mem_of_get hi)).1 q2
  refine ⟨{ w with heap := w.heap.setIfInBounds b (.map ents' clock') }, C, T, by simp [execOp, hs.evv hx, q1, show a.eval (.const (.bool true)) = .bool true from rfl, hrun], hs.setObj hi (Nat.le_refl _) rfl rfl rfl (by simp) (fun j hj => by rw [Array.getElem?_setIfInBounds, if_neg (fun e : b = j => hj e.symm)]) ⟨ents', clock', by simp [hb], g1, g2, g3, g4, g5⟩⟩
theorem objs_set {i : Nat} {m : Nat} {rw' : Bool} {o o' : AObj} (hs : SimC w0 C0 C T S a w) (hi : S.objs[i]? = some ⟨m, rw', o⟩) (h : ObjRel C m o' w) : SimC w0 C0 C T ⟨S.nt, S.slots, S.objs.set i ⟨m, rw', o'⟩⟩ a w := by
  have hlt : i < S.objs.length := (List.getElem?_eq_some_iff.1 hi).1
  have hg : S.objs[i] = ⟨m, rw', o⟩ := (List.getElem?_eq_some_iff.1 hi).2
  have hmem : ∀ e, e ∈ S.objs.set i ⟨m, rw', o'⟩ → e = ⟨m, rw', o'⟩ ∨ e ∈ S.objs := fun e he => by
    rcases List.mem_or_eq_of_mem_set he with h | h; exact .inr h; exact .inl h
  have hmap : (S.objs.set i ⟨m, rw', o'⟩).map (·.b) = S.objs.map (·.b) := by
    rw [List.map_set]
    apply List.ext_getElem?
    intro j
    rw [List.getElem?_set]
    by_cases hij : i = j
    · subst hij; simp [hlt, hg]
    · simp [hij]
  refine ⟨hs.below, hs.com, hs.one, hs.old, fun e he => ?_, ?_, fun t k hk => ⟨(hs.toks t k hk).1, fun e he => ?_⟩, hs.tokne, hs.size, hs.slots, hs.defers, hs.dr⟩
  · rcases hmem e he with rfl | he
    · obtain ⟨_, g2, g3⟩ := hs.objs _ (mem_of_get hi)
      exact ⟨h, g2, g3⟩
    · exact hs.objs e he
  · have e2 := List.pairwise_map.2 hs.apart
    exact List.pairwise_map.1 (hmap ▸ e2)
  · rcases hmem e he with rfl | he
    · exact (hs.toks t k hk).2 ⟨m, rw', o⟩ (mem_of_get hi)
    · exact (hs.toks t k hk).2 e he
theorem r_setRange (i : Nat) {x : Operand} {m : Nat} {rw' : Bool} {ks : List Nat} {mt kt et : TypeId} (hx : S.ev x = some (.a (.v (.map (some m))))) (hi : S.objs[i]? = some ⟨m, rw', .nset ks⟩) (hmt : mapT P mt = some (kt, et)) (ht : Nat.blt t S.nt = true)
    (hr : ∀ r bs clock, bs.length = ks.length → bs.Nodup → AWL P w0 C0 ops rest Q (AState.put ⟨S.nt, S.slots, ⟨r, true, .iter m clock [] clock⟩ :: S.objs.set i ⟨m, rw', .nsetb ks bs clock⟩⟩ t (.a (.v (.pointer (some ⟨r, 0, none⟩)))))) :
    AWL P w0 C0 ops (⟨some t, .range mt x, ty, pos, aft, none⟩ :: rest) Q S := by
  rintro a w ⟨C, T, hs⟩
  obtain ⟨ents, clock, h1, h2, h3, h4, h5, h6⟩ := (hs.objs _ (mem_of_get hi)).1
  have hbl : (ents.toList.map (·.born)).length = ks.length := by have := congrArg List.length h2; simpa using this
  have hs0 : SimC w0 C0 C T ⟨S.nt, S.slots, S.objs.set i ⟨m, rw', .nsetb ks (ents.toList.map (·.born)) clock⟩⟩ a w :=
    objs_set hs hi ⟨ents, h1, h2, h3, rfl, h4, fun x hx => by obtain ⟨e, he, rfl⟩ := List.mem_map.1 hx; exact h5 e he, h6⟩
  have hrun : (execOp a.eval ⟨some t, .range mt x, ty, pos, aft, none⟩).run P w = .ok (.value (.pointer (some ⟨w.heap.size, 0, none⟩))) (w.alloc (.mapIter (some m) clock #[] clock)) := by
    have : (Instr.range mt (.map (some m))).run P w = .ok (.pointer (some ⟨w.heap.size, 0, none⟩)) (w.alloc (.mapIter (some m) clock #[] clock)) := by
      simp [Instr.range, run_underlying (mapT_un hmt), run_getMap h1]
    simp [execOp, hs.evv hx, this]
  refine wpList_plain rfl (fun K hK => ?_)
  unfold Oper.wp
  rw [hrun]
  have hs' := hs0.newObj (.mapIter (some m) clock #[] clock) (o := .iter m clock [] clock) (heap_alloc_at _ _)
  exact hK _ _ (hr w.heap.size _ clock hbl (h4.imp (fun h => Nat.ne_of_lt h)) _ _ ⟨C, T, hs'.put ht (srel_v _)⟩)
theorem r_setNext (i j : Nat) {x : Operand} {r m clock : Nat} {rw' : Bool} {ks : List Nat} {bs seen : List Nat} (hx : S.ev x = some (.a (.v (.pointer (some ⟨r, 0, none⟩))))) (hi : S.objs[i]? = some ⟨r, true, .iter m clock seen clock⟩) (hj : S.objs[j]? = some ⟨m, rw', .nsetb ks bs clock⟩) (ht : Nat.blt t S.nt = true)
    (hend : (∀ b ∈ bs, b ∈ seen) → AWL P w0 C0 ops rest Q (S.put t (.a (.tup [.v (.bool false)]))))
    (hnext : ∀ (q b : Nat) (p : Nat), ks[q]? = some p → bs[q]? = some b → b ∉ seen → AWL P w0 C0 ops rest Q (AState.put ⟨S.nt, S.slots, S.objs.set i ⟨r, true, .iter m clock (seen ++ [b]) clock⟩⟩ t (.a (.tup [.v (.bool true), .v (ptr p), .v (.bool true)])))) :
    AWL P w0 C0 ops (⟨some t, .next x false, ty, pos, aft, none⟩ :: rest) Q S := by
  rintro a w ⟨C, T, hs⟩
  have hri : w.heap[r]? = some (.mapIter (some m) clock seen.toArray clock) := (hs.objs _ (mem_of_get hi)).1
  obtain ⟨ents, h1, h2, h3, h4, h5, h6, h7⟩ := (hs.objs _ (mem_of_get hj)).1
  have hold : ∀ x ∈ ents.toList, x.born < clock := fun x hx => h6 _ (by rw [← h4]; exact List.mem_map.2 ⟨x, hx, rfl⟩)
  refine wpList_plain rfl (fun K hK => ?_)
  unfold Oper.wp
  rcases run_next_at (P := P) w ty r m clock clock seen.toArray ents clock hri h1 hold (Nat.le_refl _) with ⟨g1, g2⟩ | ⟨e, he, w1, hw1, g2⟩
  · have hrun : (execOp a.eval ⟨some t, .next x false, ty, pos, aft, none⟩).run P w = .ok (.value (.tuple #[.bool false])) w := by simp [execOp, hs.evv hx, g2]
    rw [hrun]
    refine hK _ _ (hend (fun b hb => ?_) _ _ ⟨C, T, hs.put ht (rel_tup.2 (Rels.cons (.v _) Rels.nil))⟩)
    rw [← h4] at hb
    obtain ⟨e, he, rfl⟩ := List.mem_map.1 hb
    have hz : leftOf ents seen.toArray = #[] := Array.eq_empty_of_size_eq_zero g1
    unfold leftOf at hz
    have := (Array.filter_eq_empty_iff.1 hz) e (by simpa using he)
    simpa using this
  · have hel : e ∈ ents.toList ∧ e.born ∉ seen := by
      unfold leftOf at he
      simpa using he
    obtain ⟨q, hq⟩ := List.getElem?_of_mem hel.1
    have hk : (ks[q]?).map ptr = some e.key := by
      have := congrArg (fun l => l[q]?) h2
      simp only [List.getElem?_map, hq] at this
      simpa using this.symm
    obtain ⟨p, hp1, hp2⟩ : ∃ p, ks[q]? = some p ∧ ptr p = e.key := by
      cases hes : ks[q]? with
      | none => simp [hes] at hk
      | some p => simp [hes] at hk; exact ⟨p, rfl, hk⟩
    have hv : e.val = .bool true := h3 e hel.1
    have hb : bs[q]? = some e.born := by rw [← h4]; simp [hq]
    have hs1 : SimC w0 C0 C T S a w1 := by rcases hw1 with rfl | rfl; exact hs; exact hs.drew
    have hri1 : w1.heap[r]? = some (.mapIter (some m) clock seen.toArray clock) := by rcases hw1 with rfl | rfl <;> exact hri
    have hrun : (execOp a.eval ⟨some t, .next x false, ty, pos, aft, none⟩).run P w = .ok (.value (.tuple #[.bool true, e.key, e.val])) (ChangeMaps.setBlock w1 r (.mapIter (some m) clock (seen.toArray.push e.born) clock)) := by simp [execOp, hs.evv hx, g2]
    rw [hrun]
    have hlt := (Array.getElem?_eq_some_iff.1 hri1).1
    have hs2 := hs1.setObj (ob' := .iter m clock (seen ++ [e.born]) clock) hi (w' := ChangeMaps.setBlock w1 r (.mapIter (some m) clock (seen.toArray.push e.born) clock)) (Nat.le_refl _) rfl rfl rfl (by simp [ChangeMaps.setBlock])
      (fun k hk => by simp only [ChangeMaps.setBlock]; rw [Array.getElem?_setIfInBounds, if_neg (fun e : r = k => hk e.symm)]) (by simp [ObjRel, ChangeMaps.setBlock, hlt])
    refine hK _ _ (hnext q e.born p hp1 hb hel.2 _ _ ⟨C, T, hs2.put ht (rel_tup.2 (Rels.cons (.v _) (Rels.cons ?_ (Rels.cons ?_ Rels.nil))))⟩)
    · rw [hp2]; exact .v _
    · rw [hv]; exact .v _
theorem r_setEntry (i j : Nat) {x : Operand} {r m clock q b : Nat} {rw' : Bool} {ks : List Nat} {bs seen : List Nat} {p : Nat} (hx : S.ev x = some (.a (.v (.pointer (some ⟨r, 0, none⟩))))) (hi : S.objs[i]? = some ⟨r, true, .iter m clock (seen ++ [b]) clock⟩) (hj : S.objs[j]? = some ⟨m, rw', .nsetb ks bs clock⟩) (hp : ks[q]? = some p) (hb : bs[q]? = some b) (ht : Nat.blt t S.nt = true)
    (hr : AWL P w0 C0 ops rest Q (S.put t (.a (.tup [.v (ptr p), .v (.bool true)])))) : AWL P w0 C0 ops (⟨some t, .entry x, ty, pos, aft, none⟩ :: rest) Q S :=
  awl_pure ht (fun C T a w hs => by
    have hri : w.heap[r]? = some (.mapIter (some m) clock (seen ++ [b]).toArray clock) := (hs.objs _ (mem_of_get hi)).1
    obtain ⟨ents, h1, h2, h3, h4, h5, h6, h7⟩ := (hs.objs _ (mem_of_get hj)).1
    obtain ⟨e, he1, he2⟩ : ∃ e, ents.toList[q]? = some e ∧ e.born = b := by
      rw [← h4] at hb
      cases he : ents.toList[q]? with
      | none => simp [he] at hb
      | some e => simp [he] at hb; exact ⟨e, rfl, hb⟩
    subst he2
    have hk : ptr p = e.key := by
      have := congrArg (fun l => l[q]?) h2
      simp only [List.getElem?_map, he1, hp] at this
      simpa using this.symm
    have hv : e.val = .bool true := h3 e (List.mem_of_getElem? he1)
    have hrun := run_entry_at (P := P) w r m clock seen.toArray ents clock e (by simpa using hri) h1 (List.mem_of_getElem? he1) (by rw [h4]; exact h5.imp (fun h => Nat.ne_of_lt h))
    refine ⟨.tuple #[e.key, e.val], by simp [execOp, hs.evv hx, hrun], rel_tup.2 (Rels.cons ?_ (Rels.cons ?_ Rels.nil))⟩
    · rw [hk]; exact .v _
    · rw [hv]; exact .v _) hr
theorem imp_setUnrange (j : Nat) {m clock : Nat} {rw' : Bool} {ks : List Nat} {bs : List Nat} (hj : S.objs[j]? = some ⟨m, rw', .nsetb ks bs clock⟩) : Imp w0 C0 S ⟨S.nt, S.slots, S.objs.set j ⟨m, rw', .nset ks⟩⟩ := by
  rintro a w ⟨C, T, hs⟩
  obtain ⟨ents, h1, h2, h3, h4, h5, h6, h7⟩ := (hs.objs _ (mem_of_get hj)).1
  exact ⟨C, T, objs_set hs hj ⟨ents, clock, h1, h2, h3, by rw [h4]; exact h5, fun e he => h6 _ (by rw [← h4]; exact List.mem_map.2 ⟨e, he, rfl⟩), h7⟩⟩
end Go.Proofs.Ytljgdbgcleibjaa.A
namespace Go.Proofs.Ytljgdbgcleibjaa.A
open Go Go.RowKit
set_option linter.unusedVariables false
set_option linter.unusedSimpArgs false
structure Sp where
  br : Int
  vo : Int
  bl : Int
  nu : Int
  deriving DecidableEq, Inhabited
def Sp.cs (s : Sp) : List AV := [.v (.int .i64 s.br), .v (.int .i64 s.vo), .v (.int .i64 s.bl), .v (.int .u64 s.nu)]
def Sp.z : Sp := ⟨0, 0, 0, 0⟩
def spA (s : Sp) : AV := .agg s.cs
def u64c (v : Int) : List AV := [.v (.int .u64 v)]
def i64c (v : Int) : List AV := [.v (.int .i64 v)]
def cmpI (x y : Int) : Int := if x < y then -1 else if y < x then 1 else 0
def orI : List Int → Int
  | [] => 0
  | x :: r => if x = 0 then orI r else x
def Sp.ord (a b : Sp) : Int := orI [cmpI a.br b.br, cmpI a.vo b.vo, cmpI a.bl b.bl, cmpI a.nu b.nu]
def Sp.lt (a b : Sp) : Prop := a.ord b < 0
instance (a b : Sp) : Decidable (a.lt b) := inferInstanceAs (Decidable (a.ord b < 0))
theorem orI_zeros {n : Nat} : ∀ {l : List Int}, (∀ x ∈ l, x = 0) → orI l = 0
  | [], _ => rfl
  | x :: r, h => by rw [orI, if_pos (h x List.mem_cons_self)]; exact orI_zeros (n := n) (fun y hy => h y (List.mem_cons_of_mem _ hy))
theorem orI_take {l : List Int} {k : Nat} {x : Int} (hx : l[k]? = some x) (h : ∀ j, j < k → ∀ y, l[j]? = some y → y = 0) : orI l = orI (l.drop k) := by
  induction k generalizing l with
  | zero => rfl
  | succ k ih =>
    cases l with
    | nil => simp at hx
    | cons y r =>
      rw [orI, if_pos (h 0 (by omega) y rfl)]
      exact ih (by simpa using hx) (fun j hj z hz => h (j + 1) (by omega) z (by simpa using hz))
theorem orI_hit {l : List Int} {k : Nat} {x : Int} (hx : l[k]? = some x) (h : ∀ j, j < k → ∀ y, l[j]? = some y → y = 0) (h0 : x ≠ 0) : orI l = x := by
  rw [orI_take hx h]
  have hk := (List.getElem?_eq_some_iff.1 hx).1
  rw [List.drop_eq_getElem_cons hk, orI]
  have : l[k] = x := (List.getElem?_eq_some_iff.1 hx).2
  rw [this, if_neg h0]
theorem orI_none {l : List Int} (h : ∀ j, j < l.length → ∀ y, l[j]? = some y → y = 0) : orI l = 0 :=
  orI_zeros (n := 0) (fun x hx => by obtain ⟨j, hj⟩ := List.getElem?_of_mem hx; exact h j (List.getElem?_eq_some_iff.1 hj).1 x hj)
def ndA (b : Nat) (ks : List Sp) (vs : List Int) (kd : List AV) : AV := .pt b [.sl 4 (ks.map Sp.cs), .sl 1 (vs.map u64c), .sl 1 (kd.map fun x => [x])]
def boolA (b : Bool) : AV := .v (.bool b)
def nilP : AV := .v (.pointer none)
def findL (k : Sp) : List Sp → Nat × Bool
  | [] => (0, false)
  | x :: r => if 0 ≤ x.ord k then (0, decide (x.ord k = 0)) else ((findL k r).1 + 1, (findL k r).2)
def findR (k : Sp) (l : List Sp) : Nat → Nat × Bool
  | 0 => (0, false)
  | n + 1 => match l[n]? with
    | some x => if x.ord k ≤ 0 then (n, decide (x.ord k = 0)) else findR k l n
    | none => findR k l n
def findN (k : Sp) (ks : List Sp) (leaf : Bool) : Nat × Bool := if leaf then findL k ks else findR k ks ks.length
theorem findL_hit {k : Sp} : ∀ {l : List Sp} {i : Nat} {x : Sp}, l[i]? = some x → (∀ j, j < i → ∀ y, l[j]? = some y → ¬ 0 ≤ y.ord k) → 0 ≤ x.ord k → findL k l = (i, decide (x.ord k = 0))
  | [], i, x, h, _, _ => by simp at h
  | y :: r, 0, x, h, _, h0 => by simp at h; subst h; simp [findL, h0]
  | y :: r, i + 1, x, h, hp, h0 => by
    have := findL_hit (l := r) (i := i) (by simpa using h) (fun j hj z hz => hp (j + 1) (by omega) z (by simpa using hz)) h0
    simp [findL, hp 0 (by omega) y rfl, this]
theorem findL_end {k : Sp} : ∀ {l : List Sp}, (∀ j, j < l.length → ∀ y, l[j]? = some y → ¬ 0 ≤ y.ord k) → findL k l = (l.length, false)
  | [], _ => rfl
  | y :: r, hp => by
    have := findL_end (l := r) (fun j hj z hz => hp (j + 1) (by simp; omega) z (by simpa using hz))
    simp [findL, hp 0 (by simp) y rfl, this]
theorem findR_hit {k : Sp} {l : List Sp} {i : Nat} {x : Sp} (hx : l[i]? = some x) (h0 : x.ord k ≤ 0) : findR k l (i + 1) = (i, decide (x.ord k = 0)) := by
  simp [findR, hx, h0]
theorem findR_step {k : Sp} {l : List Sp} {i : Nat} {x : Sp} (hx : l[i]? = some x) (h0 : ¬ x.ord k ≤ 0) : findR k l (i + 1) = findR k l i := by
  simp [findR, hx, h0]
end Go.Proofs.Ytljgdbgcleibjaa.A
namespace Go.Proofs.Ytljgdbgcleibjaa.A
open Go Go.RowKit
set_option linter.unusedVariables false
set_option linter.unusedSimpArgs false
set_option maxRecDepth 100000
theorem TF.en102 : entersT Try.prog 102 := enters_of Try.func102 (by kernel_rfl) (by kernel_rfl)
theorem TF.en103 : entersT Try.prog 103 := enters_of Try.func103 (by kernel_rfl) (by kernel_rfl)
theorem TF.sl162 : sliceT Try.prog 162 = some 3 := by kernel_rfl
theorem TF.sz3 : szT Try.prog 3 = some 1 := by kernel_rfl
theorem TF.agg3 : aggT Try.prog 3 = some false := by kernel_rfl
theorem TF.zero44 : ZeroT Try.prog 44 [.v (.int .i64 0), .v (.int .i64 0), .v (.int .i64 0)] := ⟨[(.int .i64 0), (.int .i64 0), (.int .i64 0)], by kernel_rfl, (LeCells.refl _)⟩
theorem TF.sz44 : szT Try.prog 44 = some 3 := by kernel_rfl
theorem TF.mixed : Try.prog.follows .mixedOrders = true := by kernel_rfl
theorem TF.f47_0 : fieldT Try.prog 47 0 = some (0, 44) := by kernel_rfl
theorem TF.agg44 : aggT Try.prog 44 = some true := by kernel_rfl
theorem TF.f44_0 : fieldT Try.prog 44 0 = some (0, 3) := by kernel_rfl
theorem TF.en84 : entersT Try.prog 84 := enters_of Try.func84 (by kernel_rfl) (by kernel_rfl)
theorem TF.f44_1 : fieldT Try.prog 44 1 = some (1, 3) := by kernel_rfl
theorem TF.f44_2 : fieldT Try.prog 44 2 = some (2, 3) := by kernel_rfl
theorem TF.f47_1 : fieldT Try.prog 47 1 = some (3, 45) := by kernel_rfl
theorem TF.sz45 : szT Try.prog 45 = some 1 := by kernel_rfl
theorem TF.agg45 : aggT Try.prog 45 = some false := by kernel_rfl
theorem TF.en85 : entersT Try.prog 85 := enters_of Try.func85 (by kernel_rfl) (by kernel_rfl)
theorem TF.zraw3 : zeroT Try.prog 3 = some [(.int .i64 0)] := by kernel_rfl
theorem TF.en83 : entersT Try.prog 83 := enters_of Try.func83 (by kernel_rfl) (by kernel_rfl)
theorem TF.agg47 : aggT Try.prog 47 = some true := by kernel_rfl
theorem TF.sz47 : szT Try.prog 47 = some 4 := by kernel_rfl
theorem TF.en55 : entersT Try.prog 55 := enters_of Try.func55 (by kernel_rfl) (by kernel_rfl)
theorem isNaN_int_q (x : Int) : ACq Try.prog 102 [.v (.int .i64 x)] [] (fun r n => n = [] ∧ r = boolA false) := by
 refine acq_of_awp (rs := [2]) (nt := 6) Try.func102 rfl rfl rfl rfl (fun w0 C0 hq => ?_)
 refine awp_seq ?_
 refine awp_region ?_
 refine r_assign rfl rfl ?_
 refine awl_nil ?_
 refine x_then ?_
 refine awp_seq ?_
 refine awp_region ?_
 refine r_move rfl rfl ?_
 refine r_move rfl rfl ?_
 refine r_cmp rfl rfl rfl rfl ?_
 refine r_assign rfl rfl ?_
 refine awl_nil ?_
 refine x_then ?_
 refine awp_ret ?_
 exact ⟨(.inl rfl), _, [], (.one (by first | exact .mk rfl rfl | exact .nil rfl)), ⟨rfl, by first | rfl | (simp [boolA]; rfl)⟩, (List.nil_sublist _), (by simp)⟩
theorem cmpI_ok_q (x y : Int) : ACq Try.prog 84 [.v (.int .i64 x), .v (.int .i64 y)] [] (fun r n => n = [] ∧ r = .v (.int .i64 (cmpI x y))) := by
 refine acq_of_awp (rs := [4]) (nt := 20) Try.func84 rfl rfl rfl rfl (fun w0 C0 hq => ?_)
 refine awp_seq ?_
 refine awp_region ?_
 refine r_assign rfl rfl ?_
 refine awl_nil ?_
 refine x_then ?_
 refine awp_seq ?_
 refine awp_region ?_
 refine r_move rfl rfl ?_
 refine r_callq0 rfl rfl (.cons (.ev rfl rfl) .nil) (isNaN_int_q x) rfl TF.en102 rfl (fun r hr => ?_)
 obtain rfl := hr
 refine r_assign rfl rfl ?_
 refine awl_nil ?_
 refine x_then ?_
 refine awp_seq ?_
 refine awp_region ?_
 refine r_move rfl rfl ?_
 refine r_callq0 rfl rfl (.cons (.ev rfl rfl) .nil) (isNaN_int_q y) rfl TF.en102 rfl (fun r hr => ?_)
 obtain rfl := hr
 refine r_assign rfl rfl ?_
 refine awl_nil ?_
 refine x_then ?_
 refine awp_seq ?_
 refine awp_seq ?_
 refine awp_region ?_
 refine r_move rfl rfl ?_
 refine awl_nil ?_
 refine x_then ?_
 refine awp_cond rfl (fun hc0 => ?_) (fun hc0 => ?_)
 ·
  cases hc0
 ·
  refine awp_skip ?_
  refine x_then ?_
  refine awp_seq ?_
  refine awp_seq ?_
  refine awp_region ?_
  refine r_move rfl rfl ?_
  refine awl_nil ?_
  refine x_then ?_
  refine awp_cond rfl (fun hc2 => ?_) (fun hc2 => ?_)
  ·
   cases hc2
  ·
   refine awp_skip ?_
   refine x_then ?_
   refine awp_seq ?_
   refine awp_seq ?_
   refine awp_region ?_
   refine r_move rfl rfl ?_
   refine r_move rfl rfl ?_
   refine r_cmp rfl rfl rfl rfl ?_
   refine awl_nil ?_
   refine x_then ?_
   refine awp_cond rfl (fun hc3 => ?_) (fun hc3 => ?_)
   ·
    have h1 : x < y := of_decide_eq_true hc3
    refine awp_seq ?_
    refine awp_region ?_
    refine r_assign rfl rfl ?_
    refine awl_nil ?_
    refine x_then ?_
    refine awp_ret ?_
    refine x_thenR ?_
    exact ⟨(.inl rfl), _, [], (.one (by first | exact .mk rfl rfl | exact .nil rfl)), ⟨rfl, by first | (rw [cmpI, if_pos h1]; rfl) | (rw [cmpI, if_neg h1, if_pos h2]; rfl) | (rw [cmpI, if_neg h1, if_neg h2]; rfl)⟩, (List.nil_sublist _), (by simp)⟩
   ·
    have h1 : ¬ x < y := of_decide_eq_false hc3
    refine awp_skip ?_
    refine x_then ?_
    refine awp_seq ?_
    refine awp_seq ?_
    refine awp_region ?_
    refine r_move rfl rfl ?_
    refine r_move rfl rfl ?_
    refine r_cmp rfl rfl rfl rfl ?_
    refine awl_nil ?_
    refine x_then ?_
    refine awp_cond rfl (fun hc4 => ?_) (fun hc4 => ?_)
    ·
     have h2 : y < x := of_decide_eq_true hc4
     refine awp_seq ?_
     refine awp_region ?_
     refine r_assign rfl rfl ?_
     refine awl_nil ?_
     refine x_then ?_
     refine awp_ret ?_
     refine x_thenR ?_
     exact ⟨(.inl rfl), _, [], (.one (by first | exact .mk rfl rfl | exact .nil rfl)), ⟨rfl, by first | (rw [cmpI, if_pos h1]; rfl) | (rw [cmpI, if_neg h1, if_pos h2]; rfl) | (rw [cmpI, if_neg h1, if_neg h2]; rfl)⟩, (List.nil_sublist _), (by simp)⟩
    ·
     have h2 : ¬ y < x := of_decide_eq_false hc4
     refine awp_skip ?_
     refine x_then ?_
     refine awp_seq ?_
     refine awp_region ?_
     refine r_assign rfl rfl ?_
     refine awl_nil ?_
     refine x_then ?_
     refine awp_ret ?_
     exact ⟨(.inl rfl), _, [], (.one (by first | exact .mk rfl rfl | exact .nil rfl)), ⟨rfl, by first | (rw [cmpI, if_pos h1]; rfl) | (rw [cmpI, if_neg h1, if_pos h2]; rfl) | (rw [cmpI, if_neg h1, if_neg h2]; rfl)⟩, (List.nil_sublist _), (by simp)⟩
theorem isNaN_uint64_q (x : Int) : ACq Try.prog 103 [.v (.int .u64 x)] [] (fun r n => n = [] ∧ r = boolA false) := by
 refine acq_of_awp (rs := [2]) (nt := 6) Try.func103 rfl rfl rfl rfl (fun w0 C0 hq => ?_)
 refine awp_seq ?_
 refine awp_region ?_
 refine r_assign rfl rfl ?_
 refine awl_nil ?_
 refine x_then ?_
 refine awp_seq ?_
 refine awp_region ?_
 refine r_move rfl rfl ?_
 refine r_move rfl rfl ?_
 refine r_cmp rfl rfl rfl rfl ?_
 refine r_assign rfl rfl ?_
 refine awl_nil ?_
 refine x_then ?_
 refine awp_ret ?_
 exact ⟨(.inl rfl), _, [], (.one (by first | exact .mk rfl rfl | exact .nil rfl)), ⟨rfl, by first | rfl | (simp [boolA]; rfl)⟩, (List.nil_sublist _), (by simp)⟩
theorem cmpU_ok_q (x y : Int) : ACq Try.prog 85 [.v (.int .u64 x), .v (.int .u64 y)] [] (fun r n => n = [] ∧ r = .v (.int .i64 (cmpI x y))) := by
 refine acq_of_awp (rs := [4]) (nt := 20) Try.func85 rfl rfl rfl rfl (fun w0 C0 hq => ?_)
 refine awp_seq ?_
 refine awp_region ?_
 refine r_assign rfl rfl ?_
 refine awl_nil ?_
 refine x_then ?_
 refine awp_seq ?_
 refine awp_region ?_
 refine r_move rfl rfl ?_
 refine r_callq0 rfl rfl (.cons (.ev rfl rfl) .nil) (isNaN_uint64_q x) rfl TF.en103 rfl (fun r hr => ?_)
 obtain rfl := hr
 refine r_assign rfl rfl ?_
 refine awl_nil ?_
 refine x_then ?_
 refine awp_seq ?_
 refine awp_region ?_
 refine r_move rfl rfl ?_
 refine r_callq0 rfl rfl (.cons (.ev rfl rfl) .nil) (isNaN_uint64_q y) rfl TF.en103 rfl (fun r hr => ?_)
 obtain rfl := hr
 refine r_assign rfl rfl ?_
 refine awl_nil ?_
 refine x_then ?_
 refine awp_seq ?_
 refine awp_seq ?_
 refine awp_region ?_
 refine r_move rfl rfl ?_
 refine awl_nil ?_
 refine x_then ?_
 refine awp_cond rfl (fun hc0 => ?_) (fun hc0 => ?_)
 ·
  cases hc0
 ·
  refine awp_skip ?_
  refine x_then ?_
  refine awp_seq ?_
  refine awp_seq ?_
  refine awp_region ?_
  refine r_move rfl rfl ?_
  refine awl_nil ?_
  refine x_then ?_
  refine awp_cond rfl (fun hc2 => ?_) (fun hc2 => ?_)
  ·
   cases hc2
  ·
   refine awp_skip ?_
   refine x_then ?_
   refine awp_seq ?_
   refine awp_seq ?_
   refine awp_region ?_
   refine r_move rfl rfl ?_
   refine r_move rfl rfl ?_
   refine r_cmp rfl rfl rfl rfl ?_
   refine awl_nil ?_
   refine x_then ?_
   refine awp_cond rfl (fun hc3 => ?_) (fun hc3 => ?_)
   ·
    have h1 : x < y := of_decide_eq_true hc3
    refine awp_seq ?_
    refine awp_region ?_
    refine r_assign rfl rfl ?_
    refine awl_nil ?_
    refine x_then ?_
    refine awp_ret ?_
    refine x_thenR ?_
    exact ⟨(.inl rfl), _, [], (.one (by first | exact .mk rfl rfl | exact .nil rfl)), ⟨rfl, by first | (rw [cmpI, if_pos h1]; rfl) | (rw [cmpI, if_neg h1, if_pos h2]; rfl) | (rw [cmpI, if_neg h1, if_neg h2]; rfl)⟩, (List.nil_sublist _), (by simp)⟩
   ·
    have h1 : ¬ x < y := of_decide_eq_false hc3
    refine awp_skip ?_
    refine x_then ?_
    refine awp_seq ?_
    refine awp_seq ?_
    refine awp_region ?_
    refine r_move rfl rfl ?_
    refine r_move rfl rfl ?_
    refine r_cmp rfl rfl rfl rfl ?_
    refine awl_nil ?_
    refine x_then ?_
    refine awp_cond rfl (fun hc4 => ?_) (fun hc4 => ?_)
    ·
     have h2 : y < x := of_decide_eq_true hc4
     refine awp_seq ?_
     refine awp_region ?_
     refine r_assign rfl rfl ?_
     refine awl_nil ?_
     refine x_then ?_
     refine awp_ret ?_
     refine x_thenR ?_
     exact ⟨(.inl rfl), _, [], (.one (by first | exact .mk rfl rfl | exact .nil rfl)), ⟨rfl, by first | (rw [cmpI, if_pos h1]; rfl) | (rw [cmpI, if_neg h1, if_pos h2]; rfl) | (rw [cmpI, if_neg h1, if_neg h2]; rfl)⟩, (List.nil_sublist _), (by simp)⟩
    ·
     have h2 : ¬ y < x := of_decide_eq_false hc4
     refine awp_skip ?_
     refine x_then ?_
     refine awp_seq ?_
     refine awp_region ?_
     refine r_assign rfl rfl ?_
     refine awl_nil ?_
     refine x_then ?_
     refine awp_ret ?_
     exact ⟨(.inl rfl), _, [], (.one (by first | exact .mk rfl rfl | exact .nil rfl)), ⟨rfl, by first | (rw [cmpI, if_pos h1]; rfl) | (rw [cmpI, if_neg h1, if_pos h2]; rfl) | (rw [cmpI, if_neg h1, if_neg h2]; rfl)⟩, (List.nil_sublist _), (by simp)⟩
theorem or_ok_q (l : List Int) (hl : l.length ≤ 1000) : ACq Try.prog 83 [.sl 1 (l.map i64c)] [] (fun r n => n = [] ∧ r = .v (.int .i64 (orI l))) := by
 refine acq_of_awp (rs := [2]) (nt := 18) Try.func83 rfl rfl rfl rfl (fun w0 C0 hq => ?_)
 refine awp_seq ?_
 refine awp_region ?_
 refine r_assign rfl rfl ?_
 refine awl_nil ?_
 refine x_then ?_
 refine awp_seq ?_
 refine awp_region ?_
 refine r_assign rfl rfl ?_
 refine awl_nil ?_
 refine x_then ?_
 refine awp_seq ?_
 refine awp_seq ?_
 refine awp_region ?_
 refine r_move rfl rfl ?_
 refine r_lenS rfl rfl TF.sl162 rfl ?_
 refine r_move rfl rfl ?_
 refine awl_nil ?_
 refine x_then ?_
 refine awp_block ?_
 refine awp_loop (fun nn0 S => ∃ k : Nat, S = ⟨18, [(3, .a (.v (.int .i64 (0)))), (6, .a (.sl 1 (l.map i64c))), (7, .a (.v (.int .i64 (((l.map i64c).length : Nat))))), (8, .a (.v (.int .i64 ((k : Int)))))], []⟩ ∧ nn0 = l.length - k ∧ (k ≤ l.length) ∧ (∀ j, j < k → ∀ y, l[j]? = some y → y = 0)) (l.length - (0)) ⟨18, [(3, .a (.v (.int .i64 (0)))), (6, .a (.sl 1 (l.map i64c))), (7, .a (.v (.int .i64 (((l.map i64c).length : Nat))))), (8, .a (.v (.int .i64 (((0) : Int)))))], []⟩ ⟨rfl, (Slots.cons rfl (by first | exact .refl _ | exact .nilOwn _ _ | exact .nilSl _ | exact .ownSl _ _ _  | exact SV.le.of_eq (by simp)) (Slots.cons rfl (by first | exact .refl _ | exact .nilOwn _ _ | exact .nilSl _ | exact .ownSl _ _ _  | exact SV.le.of_eq (by simp)) (Slots.cons rfl (by first | exact .refl _ | exact .nilOwn _ _ | exact .nilSl _ | exact .ownSl _ _ _  | exact SV.le.of_eq (by simp)) (Slots.cons rfl (by first | exact .refl _ | exact .nilOwn _ _ | exact .nilSl _ | exact .ownSl _ _ _  | exact SV.le.of_eq (by simp)) Slots.nil)))), (by first | exact List.Sublist.refl _ | exact .cons_cons _ (.cons _ (.refl _)) | exact List.nil_sublist _ | exact .cons _ (.refl _) | exact .cons _ (.cons _ (.refl _)) | exact .cons _ (.cons _ (.cons _ (.refl _))) | exact .cons _ (.cons _ (.cons _ (.cons _ (.refl _)))) | exact .cons_cons _ (List.nil_sublist _))⟩ ⟨0, rfl, rfl, Nat.zero_le _, (fun j h => by omega)⟩ ?_
 rintro nn0 _ ⟨k, rfl, rfl, hk, hz⟩
 refine awp_seq ?_
 refine awp_region ?_
 refine r_cmp rfl rfl rfl rfl ?_
 refine awl_nil ?_
 refine x_then ?_
 refine awp_seq ?_
 refine awp_cond rfl (fun hc0 => ?_) (fun hc0 => ?_)
 ·
  have hltx : k < l.length := by have := of_decide_eq_true hc0; simpa using this
  obtain ⟨x, hx⟩ := get_lt hltx
  refine awp_skip ?_
  refine x_then ?_
  refine awp_seq ?_
  refine awp_block ?_
  refine awp_seq ?_
  refine awp_region ?_
  refine r_index rfl rfl rfl TF.sl162 TF.sz3 (by omega) (get_map hx) rfl ?_
  refine r_load1 rfl TF.agg3 rfl ?_
  refine r_assign rfl rfl ?_
  refine awl_nil ?_
  refine x_then ?_
  refine awp_seq ?_
  refine awp_region ?_
  refine r_move rfl rfl ?_
  refine r_move rfl rfl ?_
  refine r_cmp rfl rfl rfl rfl ?_
  refine awl_nil ?_
  refine x_then ?_
  refine awp_cond rfl (fun hc1 => ?_) (fun hc1 => ?_)
  ·
   have h0 : x ≠ 0 := by simpa using hc1
   have hor := orI_hit hx hz h0
   refine awp_seq ?_
   refine awp_region ?_
   refine r_move rfl rfl ?_
   refine r_assign rfl rfl ?_
   refine awl_nil ?_
   refine x_then ?_
   refine awp_ret ?_
   refine x_blockR ?_
   refine x_thenR ?_
   refine x_thenR ?_
   refine x_blockR ?_
   refine x_thenR ?_
   exact ⟨(.inl rfl), _, [], (.one (by first | exact .mk rfl rfl | exact .nil rfl)), ⟨rfl, by rw [hor]; rfl⟩, (List.nil_sublist _), (by simp)⟩
  ·
   have h0 : x = 0 := by simpa using hc1
   refine awp_skip ?_
   refine x_block ?_
   refine x_then ?_
   refine awp_region ?_
   refine r_ari _ rfl rfl rfl (wrap_id (by first | omega | (simp; omega))) rfl ?_
   refine r_move rfl rfl ?_
   refine awl_nil ?_
   refine x_then ?_
   refine ⟨l.length - (k + 1), ⟨18, [(3, .a (.v (.int .i64 (0)))), (6, .a (.sl 1 (l.map i64c))), (7, .a (.v (.int .i64 (((l.map i64c).length : Nat))))), (8, .a (.v (.int .i64 (((k + 1) : Int)))))], []⟩, ⟨rfl, (Slots.cons rfl (by first | exact .refl _ | exact .nilOwn _ _ | exact .nilSl _ | exact .ownSl _ _ _  | exact SV.le.of_eq (by simp)) (Slots.cons rfl (by first | exact .refl _ | exact .nilOwn _ _ | exact .nilSl _ | exact .ownSl _ _ _  | exact SV.le.of_eq (by simp)) (Slots.cons rfl (by first | exact .refl _ | exact .nilOwn _ _ | exact .nilSl _ | exact .ownSl _ _ _  | exact SV.le.of_eq (by simp)) (Slots.cons rfl (by first | exact .refl _ | exact .nilOwn _ _ | exact .nilSl _ | exact .ownSl _ _ _  | exact SV.le.of_eq (by simp)) Slots.nil)))), (by first | exact List.Sublist.refl _ | exact .cons_cons _ (.cons _ (.refl _)) | exact List.nil_sublist _ | exact .cons _ (.refl _) | exact .cons _ (.cons _ (.refl _)) | exact .cons _ (.cons _ (.cons _ (.refl _))) | exact .cons _ (.cons _ (.cons _ (.cons _ (.refl _)))) | exact .cons_cons _ (List.nil_sublist _))⟩, (by omega), ⟨k + 1, rfl, rfl, (by omega), (fun j hj y hy => by rcases Nat.lt_succ_iff_lt_or_eq.1 hj with h | h; exact hz j h y hy; subst h; rw [hx] at hy; cases hy; exact h0)⟩⟩
 ·
  have hge : l.length ≤ k := by have := of_decide_eq_false hc0; simp at this; omega
  have hor := orI_none (l := l) (fun j hj => hz j (by omega))
  refine awp_exit ?_
  refine x_thenE ?_
  refine x_thenE ?_
  refine x_blockE ?_
  refine x_then ?_
  refine awp_seq ?_
  refine awp_region ?_
  refine r_move rfl rfl ?_
  refine r_assign rfl rfl ?_
  refine awl_nil ?_
  refine x_then ?_
  refine awp_ret ?_
  exact ⟨(.inl rfl), _, [], (.one (by first | exact .mk rfl rfl | exact .nil rfl)), ⟨rfl, by rw [hor]; rfl⟩, (List.nil_sublist _), (by simp)⟩
theorem order_ok_q (p q : Sp) : ACq Try.prog 55 [spA p, spA q] [] (fun r n => n = [] ∧ r = .v (.int .i64 (p.ord q))) := by
 refine acq_of_awp (rs := [4]) (nt := 33) Try.func55 rfl rfl rfl rfl (fun w0 C0 hq => ?_)
 refine awp_seq ?_
 refine awp_region ?_
 refine r_box rfl rfl rfl (fun b2 => ?_)
 refine r_box rfl rfl rfl (fun b3 => ?_)
 first | refine awl_imp (imp_commit 0 3 rfl rfl rfl rfl) (awl_imp (imp_commit 0 2 rfl rfl rfl rfl) ?_) | skip
 refine r_assign rfl rfl ?_
 refine awl_nil ?_
 refine x_then ?_
 refine awp_seq ?_
 refine awp_any (fun B S => ∃ b5 : Nat, ∃ b6 : Nat, ∃ sl : List (Nat × SV), S = ⟨33, sl, (cond (B 5) [⟨b6, true, .box (cond (B 7) (q.cs.take 3) [.v (.int .i64 0), .v (.int .i64 0), .v (.int .i64 0)])⟩] [] ++ cond (B 4) [⟨b5, true, .box (cond (B 6) (p.cs.take 3) [.v (.int .i64 0), .v (.int .i64 0), .v (.int .i64 0)])⟩] [])⟩ ∧ find 2 sl = some (.a (.cp (p.cs))) ∧ find 3 sl = some (.a (.cp (q.cs))) ∧ (B 0 = true → find 7 sl = some (.a (.cp (p.cs)))) ∧ (B 1 = true → find 8 sl = some (.a (.agg (p.cs.take 3)))) ∧ (B 2 = true → find 9 sl = some (.a (.cp (q.cs)))) ∧ (B 3 = true → find 10 sl = some (.a (.agg (q.cs.take 3)))) ∧ (B 4 = true → find 5 sl = some (.a (.v (.pointer (some ⟨b5, 0, none⟩))))) ∧ (B 5 = true → find 6 sl = some (.a (.v (.pointer (some ⟨b6, 0, none⟩)))))) TF.mixed rfl ⟨0, 0, _, rfl, rfl, rfl, (fun h => by cases h), (fun h => by cases h), (fun h => by cases h), (fun h => by cases h), (fun h => by cases h), (fun h => by cases h)⟩ ⟨⟨⟨⟨⟨⟨⟨⟨trivial
  , ⟨_, rfl, fun B S hBi hdep hcl => by
    rintro ⟨b5, b6, sl, rfl, h2, h3, f0, f1, f2, f3, f4, f5⟩
    refine r_fieldcp h2 TF.f47_0 TF.sz44 rfl ?_
    exact awl_nil ⟨rfl, b5, b6, _, rfl, h2, h3, (fun h => rfl), f1, f2, f3, f4, f5⟩⟩⟩
  , ⟨_, rfl, fun B S hBi hdep hcl => by
    rintro ⟨b5, b6, sl, rfl, h2, h3, f0, f1, f2, f3, f4, f5⟩
    refine r_loadA (f0 (hdep 0 rfl)) TF.agg44 TF.sz44 rfl rfl ?_
    exact awl_nil ⟨rfl, b5, b6, _, rfl, h2, h3, f0, (fun h => rfl), f2, f3, f4, f5⟩⟩⟩
  , ⟨_, rfl, fun B S hBi hdep hcl => by
    rintro ⟨b5, b6, sl, rfl, h2, h3, f0, f1, f2, f3, f4, f5⟩
    refine r_fieldcp h3 TF.f47_0 TF.sz44 rfl ?_
    exact awl_nil ⟨rfl, b5, b6, _, rfl, h2, h3, f0, f1, (fun h => rfl), f3, f4, f5⟩⟩⟩
  , ⟨_, rfl, fun B S hBi hdep hcl => by
    rintro ⟨b5, b6, sl, rfl, h2, h3, f0, f1, f2, f3, f4, f5⟩
    refine r_loadA (f2 (hdep 2 rfl)) TF.agg44 TF.sz44 rfl rfl ?_
    exact awl_nil ⟨rfl, b5, b6, _, rfl, h2, h3, f0, f1, f2, (fun h => rfl), f4, f5⟩⟩⟩
  , ⟨_, rfl, fun B S hBi hdep hcl => by
    rintro ⟨b5, b6, sl, rfl, h2, h3, f0, f1, f2, f3, f4, f5⟩
    have n5 : B 6 = false := by cases h : B 6 with | false => rfl | true => exact absurd (hcl 6 4 h rfl) (by rw [hBi]; decide)
    refine r_alloc TF.zero44 rfl (fun b => ?_)
    refine awl_imp (imp_perm (objs := cond (B 5) [⟨b6, true, .box (cond (B 7) (q.cs.take 3) [.v (.int .i64 0), .v (.int .i64 0), .v (.int .i64 0)])⟩] [] ++ [⟨b, true, .box [.v (.int .i64 0), .v (.int .i64 0), .v (.int .i64 0)]⟩]) (by rw [hBi]; cases B 5 <;> (first | exact List.Perm.refl _ | exact List.Perm.swap _ _ _))) ?_
    exact awl_nil ⟨rfl, b, b6, ((5, .a (.v (.pointer (some ⟨b, 0, none⟩)))) :: sl), (by show _ = (⟨33, _, cond (B 5) _ _ ++ [⟨b, true, .box (cond (B 6) _ _)⟩]⟩ : AState); rw [n5]; rfl), h2, h3, f0, f1, f2, f3, (fun h => rfl), f5⟩⟩⟩
  , ⟨_, rfl, fun B S hBi hdep hcl => by
    rintro ⟨b5, b6, sl, rfl, h2, h3, f0, f1, f2, f3, f4, f5⟩
    have n6 : B 7 = false := by cases h : B 7 with | false => rfl | true => exact absurd (hcl 7 5 h rfl) (by rw [hBi]; decide)
    refine r_alloc TF.zero44 rfl (fun b => ?_)
    refine awl_imp (imp_perm (objs := ⟨b, true, .box [.v (.int .i64 0), .v (.int .i64 0), .v (.int .i64 0)]⟩ :: cond (B 4) [⟨b5, true, .box (cond (B 6) (p.cs.take 3) [.v (.int .i64 0), .v (.int .i64 0), .v (.int .i64 0)])⟩] []) (by rw [hBi]; exact List.Perm.refl _)) ?_
    exact awl_nil ⟨rfl, b5, b, ((6, .a (.v (.pointer (some ⟨b, 0, none⟩)))) :: sl), (by show _ = (⟨33, _, [⟨b, true, .box (cond (B 7) _ _)⟩] ++ _⟩ : AState); rw [n6]; rfl), h2, h3, f0, f1, f2, f3, f4, (fun h => rfl)⟩⟩⟩
  , ⟨_, rfl, fun B S hBi hdep hcl => by
    rintro ⟨b5, b6, sl, rfl, h2, h3, f0, f1, f2, f3, f4, f5⟩
    have e5 : B 4 = true := hdep 4 rfl
    have e6 : B 5 = true := hdep 5 rfl
    rw [e5, e6, hBi]
    refine r_store 1 (f4 e5) rfl (f1 (hdep 1 rfl)) TF.sz44 rfl rfl rfl ?_
    exact awl_nil ⟨rfl, b5, b6, _, (by show _ = (⟨33, _, cond (B 5) [⟨b6, true, .box (cond (B 7) _ _)⟩] [] ++ cond (B 4) [⟨b5, true, .box (cond true _ _)⟩] []⟩ : AState); rw [e5, e6]; rfl), h2, h3, f0, f1, f2, f3, f4, f5⟩⟩⟩
  , ⟨_, rfl, fun B S hBi hdep hcl => by
    rintro ⟨b5, b6, sl, rfl, h2, h3, f0, f1, f2, f3, f4, f5⟩
    have e5 : B 4 = true := hdep 4 rfl
    have e6 : B 5 = true := hdep 5 rfl
    have e7 : B 6 = true := hdep 6 rfl
    rw [e5, e6, e7, hBi]
    refine r_store 0 (f5 e6) rfl (f3 (hdep 3 rfl)) TF.sz44 rfl rfl rfl ?_
    exact awl_nil ⟨rfl, b5, b6, _, (by show _ = (⟨33, _, cond (B 5) [⟨b6, true, .box (cond true _ _)⟩] [] ++ cond (B 4) [⟨b5, true, .box (cond (B 6) _ _)⟩] []⟩ : AState); rw [e5, e6, e7]; rfl), h2, h3, f0, f1, f2, f3, f4, f5⟩⟩⟩
  (fun B S hall => by
   rintro ⟨b5, b6, sl, rfl, h2, h3, f0, f1, f2, f3, f4, f5⟩
   rw [hall 4 (by decide), hall 5 (by decide), hall 6 (by decide), hall 7 (by decide)]
   refine x_then ?_
   refine awp_weaken (S' := ⟨33, [(2, .a (.cp (p.cs))), (3, .a (.cp (q.cs))), (5, .a (.v (.pointer (some ⟨b5, 0, none⟩)))), (6, .a (.v (.pointer (some ⟨b6, 0, none⟩))))], [⟨b6, true, .box (q.cs.take 3)⟩, ⟨b5, true, .box (p.cs.take 3)⟩]⟩) ⟨rfl, (Slots.cons h2 (.refl _) (Slots.cons h3 (.refl _) (Slots.cons (f4 (hall 4 (by decide))) (.refl _) (Slots.cons (f5 (hall 5 (by decide))) (.refl _) Slots.nil)))), (List.Sublist.refl _)⟩ ?_
   refine awp_seq ?_
   refine awp_imp (imp_commit 0 6 rfl rfl rfl rfl) ?_
   refine awp_imp (imp_commit 0 5 rfl rfl rfl rfl) ?_
   refine awp_drawS [11, 12, 13, 14, 15, 16, 17, 18, 19, 20, 21, 22, 23, 24, 25, 26, 27, 28, 29] [_, _, _, _, _, _, _, _, _, _, _, _, _, _, _, _, _, _, _] [] [] TF.mixed rfl rfl rfl ⟨⟨⟨⟨⟨⟨⟨⟨⟨⟨⟨⟨⟨⟨⟨⟨⟨⟨⟨trivial
    , ⟨_, rfl, fun sl hd hr ho => by
      refine r_fieldcp (hr 5 _ rfl rfl rfl) TF.f44_0 TF.sz3 rfl ?_
      exact awl_nil ⟨rfl, post_put⟩⟩⟩
    , ⟨_, rfl, fun sl hd hr ho => by
      refine r_load1 (hd 0 _ rfl rfl rfl) TF.agg3 rfl ?_
      exact awl_nil ⟨rfl, post_put⟩⟩⟩
    , ⟨_, rfl, fun sl hd hr ho => by
      refine r_fieldcp (hr 6 _ rfl rfl rfl) TF.f44_0 TF.sz3 rfl ?_
      exact awl_nil ⟨rfl, post_put⟩⟩⟩
    , ⟨_, rfl, fun sl hd hr ho => by
      refine r_load1 (hd 2 _ rfl rfl rfl) TF.agg3 rfl ?_
      exact awl_nil ⟨rfl, post_put⟩⟩⟩
    , ⟨_, rfl, fun sl hd hr ho => by
      refine r_callq0 rfl rfl (.cons (.ev (hd 1 _ rfl rfl rfl) rfl) (.cons (.ev (hd 3 _ rfl rfl rfl) rfl) .nil)) (cmpI_ok_q _ _) rfl TF.en84 rfl (fun r hr => ?_)
      obtain rfl := hr
      exact awl_nil ⟨rfl, post_put⟩⟩⟩
    , ⟨_, rfl, fun sl hd hr ho => by
      refine r_fieldcp (hr 5 _ rfl rfl rfl) TF.f44_1 TF.sz3 rfl ?_
      exact awl_nil ⟨rfl, post_put⟩⟩⟩
    , ⟨_, rfl, fun sl hd hr ho => by
      refine r_load1 (hd 5 _ rfl rfl rfl) TF.agg3 rfl ?_
      exact awl_nil ⟨rfl, post_put⟩⟩⟩
    , ⟨_, rfl, fun sl hd hr ho => by
      refine r_fieldcp (hr 6 _ rfl rfl rfl) TF.f44_1 TF.sz3 rfl ?_
      exact awl_nil ⟨rfl, post_put⟩⟩⟩
    , ⟨_, rfl, fun sl hd hr ho => by
      refine r_load1 (hd 7 _ rfl rfl rfl) TF.agg3 rfl ?_
      exact awl_nil ⟨rfl, post_put⟩⟩⟩
    , ⟨_, rfl, fun sl hd hr ho => by
      refine r_callq0 rfl rfl (.cons (.ev (hd 6 _ rfl rfl rfl) rfl) (.cons (.ev (hd 8 _ rfl rfl rfl) rfl) .nil)) (cmpI_ok_q _ _) rfl TF.en84 rfl (fun r hr => ?_)
      obtain rfl := hr
      exact awl_nil ⟨rfl, post_put⟩⟩⟩
    , ⟨_, rfl, fun sl hd hr ho => by
      refine r_fieldcp (hr 5 _ rfl rfl rfl) TF.f44_2 TF.sz3 rfl ?_
      exact awl_nil ⟨rfl, post_put⟩⟩⟩
    , ⟨_, rfl, fun sl hd hr ho => by
      refine r_load1 (hd 10 _ rfl rfl rfl) TF.agg3 rfl ?_
      exact awl_nil ⟨rfl, post_put⟩⟩⟩
    , ⟨_, rfl, fun sl hd hr ho => by
      refine r_fieldcp (hr 6 _ rfl rfl rfl) TF.f44_2 TF.sz3 rfl ?_
      exact awl_nil ⟨rfl, post_put⟩⟩⟩
    , ⟨_, rfl, fun sl hd hr ho => by
      refine r_load1 (hd 12 _ rfl rfl rfl) TF.agg3 rfl ?_
      exact awl_nil ⟨rfl, post_put⟩⟩⟩
    , ⟨_, rfl, fun sl hd hr ho => by
      refine r_callq0 rfl rfl (.cons (.ev (hd 11 _ rfl rfl rfl) rfl) (.cons (.ev (hd 13 _ rfl rfl rfl) rfl) .nil)) (cmpI_ok_q _ _) rfl TF.en84 rfl (fun r hr => ?_)
      obtain rfl := hr
      exact awl_nil ⟨rfl, post_put⟩⟩⟩
    , ⟨_, rfl, fun sl hd hr ho => by
      refine r_fieldcp (hr 2 _ rfl rfl rfl) TF.f47_1 TF.sz45 rfl ?_
      exact awl_nil ⟨rfl, post_put⟩⟩⟩
    , ⟨_, rfl, fun sl hd hr ho => by
      refine r_load1 (hd 15 _ rfl rfl rfl) TF.agg45 rfl ?_
      exact awl_nil ⟨rfl, post_put⟩⟩⟩
    , ⟨_, rfl, fun sl hd hr ho => by
      refine r_fieldcp (hr 3 _ rfl rfl rfl) TF.f47_1 TF.sz45 rfl ?_
      exact awl_nil ⟨rfl, post_put⟩⟩⟩
    , ⟨_, rfl, fun sl hd hr ho => by
      refine r_load1 (hd 17 _ rfl rfl rfl) TF.agg45 rfl ?_
      exact awl_nil ⟨rfl, post_put⟩⟩⟩
    (by rfl) ?_
   refine r_callq0 rfl rfl (.cons (.ev rfl rfl) (.cons (.ev rfl rfl) .nil)) (cmpU_ok_q _ _) rfl TF.en85 rfl (fun r hr => ?_)
   obtain rfl := hr
   refine r_lit 31 (parts := [(0, .tmp 15), (1, .tmp 20), (2, .tmp 25), (3, .tmp 30)]) rfl TF.sl162 TF.sz3 TF.zraw3 rfl rfl rfl rfl rfl rfl rfl ?_
   refine r_callq0 rfl rfl (.cons (.ev rfl rfl) .nil) (or_ok_q [cmpI p.br q.br, cmpI p.vo q.vo, cmpI p.bl q.bl, cmpI p.nu q.nu] (by simp)) rfl TF.en83 rfl (fun r hr => ?_)
   obtain rfl := hr
   first | refine awl_imp (imp_commit 0 3 rfl rfl rfl rfl) (awl_imp (imp_commit 0 2 rfl rfl rfl rfl) ?_) | skip
   refine r_assign rfl rfl ?_
   refine awl_nil ?_
   refine x_then ?_
   refine awp_ret ?_
   exact ⟨(.inl rfl), _, [], (.one (by first | exact .mk rfl rfl | exact .nil rfl)), ⟨rfl, rfl⟩, (List.nil_sublist _), (by simp)⟩)
theorem before_ok_q (a b : Sp) : ACq Try.prog 53 [spA a, spA b] [] (fun r n => n = [] ∧ r = boolA (decide (a.lt b))) := by
 refine acq_of_awp (rs := [4]) (nt := 9) Try.func53 rfl rfl rfl rfl (fun w0 C0 hq => ?_)
 refine awp_seq ?_
 refine awp_region ?_
 refine r_box rfl rfl rfl (fun b2 => ?_)
 refine r_box rfl rfl rfl (fun b3 => ?_)
 refine r_assign rfl rfl ?_
 refine awl_nil ?_
 refine x_then ?_
 refine awp_seq ?_
 refine awp_region ?_
 refine r_loadAb 1 rfl rfl TF.agg47 TF.sz47 rfl rfl ?_
 refine r_loadAb 0 rfl rfl TF.agg47 TF.sz47 rfl rfl ?_
 refine r_callq0 rfl rfl (.cons (.ev rfl rfl) (.cons (.ev rfl rfl) .nil)) (order_ok_q a b) rfl TF.en55 rfl (fun r hr => ?_)
 obtain rfl := hr
 refine r_cmp rfl rfl rfl rfl ?_
 refine r_assign rfl rfl ?_
 refine awl_nil ?_
 refine x_then ?_
 refine awp_ret ?_
 exact ⟨(.inl rfl), _, [], (.one (by first | exact .mk rfl rfl | exact .nil rfl)), ⟨rfl, rfl⟩, (List.nil_sublist _), (by simp)⟩
theorem order_ok (p q : Sp) : AC Try.prog 55 [spA p, spA q] [] (fun r n => n = [] ∧ r = .v (.int .i64 (p.ord q))) := (order_ok_q p q).ac
theorem before_ok (a b : Sp) : AC Try.prog 53 [spA a, spA b] [] (fun r n => n = [] ∧ r = boolA (decide (a.lt b))) := (before_ok_q a b).ac
end Go.Proofs.Ytljgdbgcleibjaa.A
namespace Go.Proofs.Ytljgdbgcleibjaa.A
open Go Go.RowKit
set_option linter.unusedVariables false
set_option linter.unusedSimpArgs false
set_option linter.unusedSectionVars false
variable {P : Program} {w0 : Base} {C0 C : CS} {T : TS} {S S' : AState} {a : Act} {w : World} {ops : Array Oper} {rest : List Oper} {o : Oper} {Q : Exit → AState → Prop}
variable {t : Nat} {ty ty' : TypeId} {pos : String} {aft : Array Edge} {rn : Option Nat}
theorem awpi_ret (h : Q .ret S) : AWPI rn P w0 C0 .ret Q S := fun _ _ hs => wpIn_ret ⟨S, hs, h⟩
def YCs (Cs : CS) (P : Program) (l : Nat) (x : List AV) (wo : List OE) (R : Bool → List OE → Prop) : Prop :=
  ∀ (C : CS) (w : World) (vals : Array Value), (∀ b o v, Cs b o = some v → C b o = some v) → Com C w → Rels C x vals.toList → Objs C wo w →
    YieldAt Fence.wide 0 P l vals w (fun e w' => ∃ bb, e = .returned (.bool bb) ∧ ∃ C' nobjs, R bb nobjs ∧ BelowX w.heap.size (WB wo) w w' ∧ (∀ b o, b < w.heap.size → ¬ WB wo b → C' b o = C b o) ∧ Com C' w' ∧ Objs C' nobjs w' ∧ ∀ e ∈ nobjs, w.heap.size ≤ e.b ∨ WB wo e.b)
theorem YCs.tr {Cs : CS} {l : Nat} {x : List AV} {wo : List OE} {R : Bool → List OE → Prop} (h : YCs Cs P l x wo R) : YCs Cs P l x (Tr wo) R := by
  have e : WB (Tr wo) = WB wo := funext fun b => propext wb_tr
  intro C w vals h0 h1 h2 h3
  rw [e]
  exact h C w vals h0 h1 h2 h3.untr
def IterS (P : Program) (it : Nat) (caps : List AV) (rd : List OE) (A : List (List AV) → List AV → Prop) (G : List (List AV) → Prop) : Prop :=
  ∀ (l : Nat) (Cs : CS) (J D : List (List AV) → List OE → Prop), (∀ pre x wo, J pre wo → A pre x → YCs Cs P l x wo (fun bb n => if bb = true then J (pre ++ [x]) n else D (pre ++ [x]) n)) → ∀ wo, J [] wo →
    AWC Cs P it (.v (.func (.yield l) #[] #[]) :: caps) rd wo (fun _ nobjs => ∃ xs wo', nobjs = Tr wo' ∧ ((G xs ∧ J xs wo') ∨ D xs wo'))
theorem r_yieldS {x : Operand} {xs : List Operand} {xa : Array Operand} {tys : Array TypeId} {l : Nat} {args : List AV} {wo un : List OE} {R : Bool → List OE → Prop} (hq : w0.q = false) (mk : List OE → List OE) (hx : S.ev x = some (.a (.v (.func (.yield l) #[] #[])))) (hxa : xa = xs.toArray) (hargs : Args S xs args)
    (Cs : CS) (hcs : CsOk Cs w0 C0) (hy : YCs Cs P l args wo R) (hp : (Tr wo ++ un).Perm S.objs) (hmk : ∀ nobjs, (Tr nobjs ++ un).Perm (mk nobjs)) (ht : Nat.blt t S.nt = true)
    (hr : ∀ bb nobjs, R bb nobjs → AWLI none P w0 C0 ops rest Q (AState.put ⟨S.nt, S.slots, mk nobjs⟩ t (.a (.v (.bool bb))))) :
    AWLI none P w0 C0 ops (⟨some t, .call ⟨.value x, xa, tys⟩, ty, pos, aft, none⟩ :: rest) Q S := by
  rintro a w ⟨C, T, hs⟩
  subst hxa
  have hf := hs.evv hx
  have hap : (Tr wo ++ un).Pairwise (fun e e' => e.b ≠ e'.b) := (hp.pairwise_iff (fun h => fun e => h e.symm)).2 hs.apart
  have hobjs : Objs C (Tr wo) w := ⟨fun e he => by have := hs.objs e (hp.mem_iff.1 (List.mem_append.2 (.inl he))); exact ⟨this.1, this.2.1⟩, (List.pairwise_append.1 hap).1⟩
  obtain ⟨fn, tmps, assign, body, hrun, hround⟩ := hy.tr C w (xs.map a.eval).toArray (fun b o v hc => by obtain ⟨h1, h2, h3⟩ := hcs b o v hc; rw [hs.old b o h2 h3]; exact h1) ⟨hs.com, hs.one⟩ (by simpa using hargs.rels hs) hobjs
  have hexec : (execOp a.eval ⟨some t, .call ⟨.value x, xs.toArray, tys⟩, ty, pos, aft, none⟩).run P w = .ok (.round l fn tmps assign body) w := by
    simp [execOp, resolve, invoke, hf, Deferred.ofValue, Sem.run_bind, hrun]
  unfold wpListIn
  rw [if_pos (by simp [Region.wanted])]
  refine ⟨fun _ _ => trivial, ?_⟩
  rw [Oper.semAt_eq _ _ _ (fun c h => by cases h), hexec]
  refine ⟨fun h => by simp [Fr, Fence.wide] at h, RoundIn.mono hround ?_⟩
  rintro e w' ⟨bb, rfl, C', nobjs, hR, hb, hC, hcom, hn, hnb⟩
  have hs' := hs.calledW hp (fun e he => by obtain ⟨e0, _, rfl⟩ := List.mem_map.1 he; rfl) hb (fun h => by rw [hq] at h; cases h) hC hcom hn hnb
  have hperm := hmk nobjs
  have hs2 : SimC w0 C0 C' T ⟨S.nt, S.slots, mk nobjs⟩ a w' := ⟨hs'.below, hs'.com, hs'.one, hs'.old, fun e he => hs'.objs e (hperm.mem_iff.2 he), (hperm.pairwise_iff (fun h => fun e => h e.symm)).1 hs'.apart,
    fun t k hk => ⟨(hs'.toks t k hk).1, fun e he => (hs'.toks t k hk).2 e (hperm.mem_iff.2 he)⟩, hs'.tokne, hs'.size, hs'.slots, hs'.defers, hs'.dr⟩
  exact hr bb nobjs hR _ _ ⟨C', T, hs2.put ht (srel_v _)⟩
inductive Stop : Exit → Code → Prop
  | ret : Stop .ret .ret
  | exit (id : Nat) : Stop (.exit id) (.exit id)
def RoundS (P : Program) (S : AState) (ps : Array Tmp) (assign body : Code) (sl : List (Nat × SV)) (JU : List (List AV) → List OE → Prop) (JX : Code → List (List AV) → List OE → Prop) (A : List (List AV) → List AV → Prop) : Prop :=
  ∀ (l : Nat) (pre : List (List AV)) (x : List AV) (wo : List OE) (rec busy : Loop) (w0 : Base) (C0 : CS), w0.q = false → JU pre wo → A pre x →
    AWPI (some l) P w0 C0 assign (fun e S1 => e = .normal ∧ ∃ i, S1.objs[i]? = some ⟨l, true, .loop rec⟩ ∧
      AWPI (some l) P w0 C0 body (fun e S' => ∃ wo' : List OE, ((e = .normal ∧ JU (pre ++ [x]) wo') ∨ ∃ c, Stop e c ∧ JX c (pre ++ [x]) wo') ∧ (wo' ++ [(⟨l, true, .loop busy⟩ : OE)]).Sublist S'.objs ∧ ∀ e ∈ wo', e.rw = true) ⟨S1.nt, S1.slots, S1.objs.set i ⟨l, true, .loop busy⟩⟩)
      (putsP ps.toList x ⟨S.nt, sl, Tr wo ++ [⟨l, true, .loop rec⟩]⟩)
theorem round_ycs {ps : Array Tmp} {assign body : Code} {sl : List (Nat × SV)} {JU : List (List AV) → List OE → Prop} {JX : Code → List (List AV) → List OE → Prop} {A : List (List AV) → List AV → Prop} (hR : RoundS P S ps assign body sl JU JX A)
    {l fn : Nat} {tmps : Array Value} {D : Nat} {Cs : CS} {Ts : TS} (hsz : tmps.size = S.nt) (hps : ps.toList.all (fun p => Nat.blt p S.nt) = true) (hA : ∀ pre x, A pre x → x.length = ps.size) (hpl : sl.all (fun p => p.2.plain) = true)
    (hsl : ∀ t x, find t sl = some x → SRel Cs Ts x (tmps.getD t undef)) :
    ∀ pre x wo, JU pre wo → A pre x → ∀ (C : CS) (w : World) (vals : Array Value), Com C w → Rels C x vals.toList → Objs C (⟨l, true, .loop ⟨.ready, none, fn, tmps, ps, assign, body, D⟩⟩ :: wo) w → (∀ b o v, Cs b o = some v → C b o = some v) →
      YieldAt Fence.wide 0 P l vals w (fun e w' => ∃ (pe : Option Code) (C' : CS) (wo' : List OE), e = .returned (.bool pe.isNone) ∧ (match pe with | none => JU (pre ++ [x]) wo' | some c => JX c (pre ++ [x]) wo') ∧ BelowX w.heap.size (WB (⟨l, true, .loop ⟨.ready, none, fn, tmps, ps, assign, body, D⟩⟩ :: wo)) w w' ∧
        (∀ b o, b < w.heap.size → ¬ WB (⟨l, true, .loop ⟨.ready, none, fn, tmps, ps, assign, body, D⟩⟩ :: wo) b → C' b o = C b o) ∧ Com C' w' ∧ Objs C' (⟨l, true, .loop ⟨if pe.isNone then .ready else .done, pe, fn, tmps, ps, assign, body, D⟩⟩ :: wo') w' ∧
        ∀ e ∈ (⟨l, true, .loop ⟨if pe.isNone then .ready else .done, pe, fn, tmps, ps, assign, body, D⟩⟩ :: wo' : List OE), w.heap.size ≤ e.b ∨ WB (⟨l, true, .loop ⟨.ready, none, fn, tmps, ps, assign, body, D⟩⟩ :: wo) e.b) := by
  intro pre x wo hj hax C w vals hcom hrel hobjs hmono
  have hl : w.heap[l]? = some (.loop ⟨.ready, none, fn, tmps, ps, assign, body, D⟩) := (hobjs.1 ⟨l, true, .loop ⟨.ready, none, fn, tmps, ps, assign, body, D⟩⟩ List.mem_cons_self).1
  have hvs : vals.size = ps.size := by have := hrel.1; have := hA pre x hax; simp at *; omega
  refine ⟨fn, (ps.zip vals).foldl (fun t (p, v) => t.setIfInBounds p v) tmps, assign, body, run_yield (P := P) (args := vals) hl hvs, roundIn_of_wpIn trivial ?_⟩
  obtain ⟨rec, hrec⟩ : ∃ rec : Loop, rec = ⟨.ready, none, fn, tmps, ps, assign, body, D⟩ := ⟨_, rfl⟩
  rw [← hrec] at hl hobjs ⊢
  have hst : rec.state = .ready := by rw [hrec]
  have hpe : rec.pending = none := by rw [hrec]
  -- the state in which the round begins
  have hs0 : SimC ⟨w, WB (⟨l, true, .loop rec⟩ :: wo), false⟩ C C (fun _ => none) ⟨S.nt, sl, Tr wo ++ [⟨l, true, .loop rec⟩]⟩ ⟨tmps, []⟩ w := by
    obtain ⟨ap1, ap2⟩ := List.pairwise_cons.1 hobjs.2
    refine ⟨BelowX.refl _, hcom.1, hcom.2, fun _ _ _ _ => rfl, ?_, ?_, by simp, by simp, hsz, ?_, Defs.nil, fun _ => Nat.le_refl _⟩
    · intro e he
      rcases List.mem_append.1 he with he | he
      · obtain ⟨e0, h0, rfl⟩ := List.mem_map.1 he
        have := hobjs.1 e0 (List.mem_cons_of_mem _ h0)
        exact ⟨this.1, this.2, fun _ => .inr ⟨e0, List.mem_cons_of_mem _ h0, rfl⟩⟩
      · obtain rfl := List.mem_singleton.1 he
        have := hobjs.1 _ (List.mem_cons_self)
        exact ⟨this.1, this.2, fun _ => .inr ⟨_, List.mem_cons_self, rfl⟩⟩
    · refine List.pairwise_append.2 ⟨List.pairwise_map.2 ap2, by simp, fun e he e' he' => ?_⟩
      obtain ⟨e0, h0, rfl⟩ := List.mem_map.1 he
      obtain rfl := List.mem_singleton.1 he'
      exact fun h => ap1 e0 h0 h.symm
    · intro t y hy
      have hpl' := List.all_eq_true.1 hpl _ (find_mem hy)
      have := hsl t y hy
      cases y with
      | a z => exact Rel.mono hmono this
      | own tok sz l => simp [SV.plain] at hpl'
  have hzip : (ps.toList.zip vals.toList).foldl (fun t (p, v) => t.setIfInBounds p v) tmps = (ps.zip vals).foldl (fun t (p, v) => t.setIfInBounds p v) tmps := by
    rw [← Array.foldl_toList, Array.toList_zip]
  have hs1 : SimC ⟨w, WB (⟨l, true, .loop rec⟩ :: wo), false⟩ C C (fun _ => none) (putsP ps.toList x ⟨S.nt, sl, Tr wo ++ [⟨l, true, .loop rec⟩]⟩) ⟨(ps.zip vals).foldl (fun t (p, v) => t.setIfInBounds p v) tmps, []⟩ w := by
    rw [← hzip]; exact putsP_sim (ps := ps.toList) hs0 hrel hps (by simp [hA pre x hax])
  have hround := hR l pre x wo rec { rec with state := .busy } _ C rfl hj hax _ w ⟨_, _, hs1⟩
  refine wpIn_mono hround ?_
  rintro e a1 w1 ⟨S1, ⟨C1, T1, hs1'⟩, rfl, i, hi, hbody⟩
  have hl1 : w1.heap[l]? = some (.loop rec) := (hs1'.objs _ (mem_of_get hi)).1
  have hlt1 : l < w1.heap.size := (Array.getElem?_eq_some_iff.1 hl1).1
  refine ⟨_, run_beginRound hl1 hst, ?_⟩
  have hs2 := hs1'.setObj (ob' := .loop { rec with state := .busy }) hi (w' := w1.putObj l (.loop { rec with state := .busy })) (Nat.le_refl _) rfl rfl rfl (by simp) (fun k hk => World.putObj_heap_other hk) (World.putObj_heap_same hlt1)
  refine wpIn_mono (hbody _ _ ⟨_, _, hs2⟩) ?_
  rintro e a3 w3 ⟨S3, ⟨C3, T3, hs3⟩, wo', hj', hsub, hrw⟩
  have hm : (⟨l, true, .loop { rec with state := .busy }⟩ : OE) ∈ S3.objs := hsub.mem (by simp)
  obtain ⟨k, hk⟩ := List.getElem?_of_mem hm
  have hl3 : w3.heap[l]? = some (.loop { rec with state := .busy }) := (hs3.objs _ hm).1
  have hlt3 : l < w3.heap.size := (Array.getElem?_eq_some_iff.1 hl3).1
  have key : ∀ pe : Option Code, (match pe with | none => JU (pre ++ [x]) wo' | some c => JX c (pre ++ [x]) wo') →
      ∃ v w', (Instr.endRound l pe).run P w3 = .ok v w' ∧ ∃ (pe : Option Code) (C' : CS) (wo' : List OE), (Ending.returned v) = .returned (.bool pe.isNone) ∧ (match pe with | none => JU (pre ++ [x]) wo' | some c => JX c (pre ++ [x]) wo') ∧ BelowX w.heap.size (WB (⟨l, true, .loop rec⟩ :: wo)) w w' ∧
        (∀ b o, b < w.heap.size → ¬ WB (⟨l, true, .loop rec⟩ :: wo) b → C' b o = C b o) ∧ Com C' w' ∧ Objs C' (⟨l, true, .loop ⟨if pe.isNone then .ready else .done, pe, fn, tmps, ps, assign, body, D⟩⟩ :: wo') w' ∧
        ∀ e ∈ (⟨l, true, .loop ⟨if pe.isNone then .ready else .done, pe, fn, tmps, ps, assign, body, D⟩⟩ :: wo' : List OE), w.heap.size ≤ e.b ∨ WB (⟨l, true, .loop rec⟩ :: wo) e.b := by
    intro pe hj'
    have hback : ({ { rec with state := LoopState.busy } with state := if pe.isNone then LoopState.ready else .done, pending := pe } : Loop) = ⟨if pe.isNone then .ready else .done, pe, fn, tmps, ps, assign, body, D⟩ := by rw [hrec]
    refine ⟨_, _, run_endRound pe hl3, ?_⟩
    rw [hback]
    have hap3 := hs3.apart.sublist hsub
    obtain ⟨ap1, _, ap2⟩ := List.pairwise_append.1 hap3
    have hC3 : ∀ o, C3 l o = none := (hs3.objs _ hm).2.1
    have hhp : ∀ k, k ≠ l → (w3.putObj l (.loop ⟨if pe.isNone then .ready else .done, pe, fn, tmps, ps, assign, body, D⟩)).heap[k]? = w3.heap[k]? := fun k hk => World.putObj_heap_other hk
    have hwl : WB (⟨l, true, .loop rec⟩ :: wo) l := ⟨_, List.mem_cons_self, rfl⟩
    refine ⟨pe, C3, wo', rfl, hj', ?_, hs3.old, ⟨fun b o v hc => ?_, hs3.one⟩, ⟨fun e he => ?_, ?_⟩, fun e he => ?_⟩
    · exact hs3.below.trans ⟨rfl, rfl, rfl, by simp, fun k _ hn => hhp k (fun e => by subst e; exact hn hwl)⟩
    · have hne : b ≠ l := fun e => by subst e; rw [hC3 o] at hc; cases hc
      exact (hs3.com _ _ _ hc).keep (hhp b hne)
    · rcases List.mem_cons.1 he with rfl | he
      · exact ⟨World.putObj_heap_same hlt3, hC3⟩
      · have := hs3.objs e (hsub.mem (List.mem_append.2 (.inl he)))
        exact ⟨this.1.mono (fun _ _ _ x => x) (hhp _ (ap2 e he _ (List.mem_singleton.2 rfl))), this.2.1⟩
    · exact List.pairwise_cons.2 ⟨fun e he h => ap2 e he _ (List.mem_singleton.2 rfl) h.symm, ap1⟩
    · rcases List.mem_cons.1 he with rfl | he
      · exact .inr hwl
      · have := (hs3.objs e (hsub.mem (List.mem_append.2 (.inl he)))).2.2 (hrw e he)
        exact this
  rcases hj' with ⟨rfl, hj'⟩ | ⟨c, hc, hj'⟩
  · exact key none hj'
  · cases hc with
    | ret => exact key (some .ret) hj'
    | exit id => exact key (some (.exit id)) hj'
theorem awp_rangeFuncS {g : Operand} {ps : Array Tmp} {assign body : Code} {it : Nat} {caps : List AV} {rd wo un : List OE} {A : List (List AV) → List AV → Prop} {G : List (List AV) → Prop} (JU : List (List AV) → List OE → Prop) (JX : Code → List (List AV) → List OE → Prop) (sl : List (Nat × SV)) (mask : List Bool)
    (hq : w0.q = false) (hg : S.ev g = some (.a (.fn it caps))) (hit : IterS P it caps rd A G) (hen : entersT P it) (hA : ∀ pre x, A pre x → x.length = ps.size) (hwo : sel mask S.objs = wo) (hrw : wo.all (·.rw) = true) (hun : unsel mask S.objs = un) (hrd : rd.Sublist un)
    (hsl : Slots S sl) (hpl : sl.all (fun p => p.2.plain) = true) (hps : ps.toList.all (fun p => Nat.blt p S.nt) = true) (h0 : JU [] wo) (hround : RoundS P S ps assign body sl JU JX A)
    (hr : ∀ xs wo', G xs → JU xs wo' → Q .normal ⟨S.nt, S.slots, Tr wo' ++ un⟩) (hx : ∀ c xs wo', JX c xs wo' → AWP P w0 C0 c Q ⟨S.nt, S.slots, Tr wo' ++ un⟩) : AWP P w0 C0 (.rangeFunc g ps assign body) Q S := by
  rintro a w ⟨C, T, hs⟩
  refine wpIn_wide.1 (wpIn_rangeFunc (n := 0) ?_)
  intro fn _
  have hp : (wo ++ un).Perm S.objs := by rw [← hwo, ← hun]; exact sel_perm mask S.objs
  have hf := hs.ev hg
  generalize hv : a.eval g = u at hf
  obtain ⟨arr, rfl⟩ : ∃ arr, u = .func (.func it) #[] arr := by cases hf; exact ⟨_, rfl⟩
  have hcaps := rel_fn.1 hf
  obtain ⟨rec, hrec⟩ : ∃ rec : Loop, rec = ⟨.ready, none, fn, a.tmps, ps, assign, body, w.heap.size⟩ := ⟨_, rfl⟩
  have hs1 := hs.mark
  have hs2 := hs1.newObj (.loop rec) (o := .loop rec) (by have := heap_alloc_at (w.alloc (.deferred (some []))) (.loop rec); exact this)
  obtain ⟨W1, hW1⟩ : ∃ W1, (w.alloc (.deferred (some []))).alloc (.loop rec) = W1 := ⟨_, rfl⟩
  have hl1 : (w.alloc (.deferred (some []))).heap.size = w.heap.size + 1 := by simp
  rw [hW1, hl1] at hs2
  refine ⟨w.heap.size + 1, [{ target := .collected w.heap.size, args := #[] }], W1, { target := .fn (.func it) arr, args := #[.func (.yield (w.heap.size + 1)) #[] #[]] }, W1, it,
    #[.func (.yield (w.heap.size + 1)) #[] #[]] ++ arr, W1, ?_, ?_, fun _ _ => trivial, ?_, fun h => by simp [Fence.wide] at h, ?_⟩
  · rw [← hW1, hrec]; exact run_enterLoop_outer _ _ _ _ _
  · simp only [resolve, hv]
    simp [go_sem]
  · have hen' := hen (#[Value.func (.yield (w.heap.size + 1)) #[] #[]] ++ arr) W1
    simp only [invoke, Sem.run] at hen' ⊢
    first | exact hen' | simpa [go_sem] using hen'
  · refine callsIn_wide.2 ?_
    -- the objects that the iterator is handed
    have hrel : Rels C (.v (.func (.yield (w.heap.size + 1)) #[] #[]) :: caps) (#[Value.func (.yield (w.heap.size + 1)) #[] #[]] ++ arr).toList := by simpa using Rels.cons (Rel.v _) hcaps
    have hp2 : ((⟨w.heap.size + 1, true, .loop rec⟩ :: wo) ++ un).Perm ((⟨w.heap.size + 1, true, .loop rec⟩ : OE) :: S.objs) := hp.cons _
    have hap : ((⟨w.heap.size + 1, true, .loop rec⟩ :: wo) ++ un : List OE).Pairwise (fun e e' => e.b ≠ e'.b) := (hp2.pairwise_iff (fun h => fun e => h e.symm)).2 hs2.apart
    have hobjs : Objs C (rd ++ (⟨w.heap.size + 1, true, .loop rec⟩ :: wo)) W1 := by
      refine ⟨fun e he => ?_, ?_⟩
      · have : e ∈ (⟨w.heap.size + 1, true, .loop rec⟩ : OE) :: S.objs := hp2.mem_iff.1 (List.mem_append.2 (by rcases List.mem_append.1 he with h | h; exact .inr (hrd.mem h); exact .inl h))
        exact ⟨(hs2.objs e this).1, (hs2.objs e this).2.1⟩
      · obtain ⟨h1, h2, h3⟩ := List.pairwise_append.1 hap
        exact List.pairwise_append.2 ⟨h2.sublist hrd, h1, fun e he e' he' h => h3 e' he' e (hrd.mem he) h.symm⟩
    have hyc := round_ycs hround (l := w.heap.size + 1) (fn := fn) (tmps := a.tmps) (D := w.heap.size) (Cs := C) (Ts := T) hs.size hps hA hpl (fun t x hx => by
      obtain ⟨y, hy, hle⟩ := hsl.mem (find_mem hx)
      exact hle.rel (hs.slots t y hy))
    have hpe : rec.pending = none := by rw [hrec]
    have hst : rec.state = .ready := by rw [hrec]
    have hcall := hit (w.heap.size + 1) C (fun pre wo1 => ∃ wo', wo1 = ⟨w.heap.size + 1, true, .loop rec⟩ :: wo' ∧ JU pre wo')
      (fun pre wo1 => ∃ c wo', wo1 = ⟨w.heap.size + 1, true, .loop ⟨.done, some c, fn, a.tmps, ps, assign, body, w.heap.size⟩⟩ :: wo' ∧ JX c pre wo') (by
      rintro pre x wo1 ⟨wo', rfl, hj⟩ hax C1 w1 vals hm hc hrl hob
      rw [hrec] at hob ⊢
      refine YieldAt.mono (hyc pre x wo' hj hax C1 w1 vals hc hrl hob hm) ?_
      rintro e w' ⟨pe, C', wo2, rfl, hj2, g1, g2, g3, g4, g5⟩
      cases pe with
      | none => exact ⟨true, rfl, C', _, ⟨wo2, rfl, hj2⟩, g1, g2, g3, g4, g5⟩
      | some c => exact ⟨false, rfl, C', _, ⟨c, wo2, rfl, hj2⟩, g1, g2, g3, g4, g5⟩) (⟨w.heap.size + 1, true, .loop rec⟩ :: wo) ⟨wo, rfl, h0⟩ C W1 _ (fun _ _ _ h => h) ⟨hs2.com, hs2.one⟩ hrel hobjs
    refine hcall.mono ?_
    have fin : ∀ (C3 : CS) (w3 : World) (r' : Loop) (wo' : List OE), r'.state ≠ .busy → BelowX W1.heap.size (WB (⟨w.heap.size + 1, true, .loop rec⟩ :: wo)) W1 w3 → (∀ b o, b < W1.heap.size → ¬ WB (⟨w.heap.size + 1, true, .loop rec⟩ :: wo) b → C3 b o = C b o) → Com C3 w3 →
        Objs C3 (Tr (⟨w.heap.size + 1, true, .loop r'⟩ :: wo')) w3 → (∀ e ∈ Tr (⟨w.heap.size + 1, true, .loop r'⟩ :: wo'), W1.heap.size ≤ e.b ∨ WB (⟨w.heap.size + 1, true, .loop rec⟩ :: wo) e.b) →
        ∃ w4, (Instr.endLoop (w.heap.size + 1)).run P w3 = .ok r'.pending w4 ∧ Sim w0 C0 ⟨S.nt, S.slots, Tr wo' ++ un⟩ { a with defers := [{ target := .collected w.heap.size, args := #[] }] ++ a.defers } w4 := by
      intro C3 w3 r' wo' hst' hb hC hcom hn hnb
      have hs3 := hs2.calledW hp2 (fun e he => by rcases List.mem_cons.1 he with rfl | he; rfl; exact List.all_eq_true.1 hrw e he) hb (fun h => by rw [hq] at h; cases h) hC hcom hn hnb
      rw [tr_tr] at hs3
      have hi0 : (Tr (⟨w.heap.size + 1, true, .loop r'⟩ :: wo') ++ un)[0]? = some ⟨w.heap.size + 1, true, .loop r'⟩ := rfl
      have hl3 : w3.heap[w.heap.size + 1]? = some (.loop r') := (hs3.objs _ (mem_of_get hi0)).1
      refine ⟨_, run_endLoop (P := P) hl3 hst', ?_⟩
      have hs4 := hs3.setObj (ob' := .loop { r' with state := .exhausted }) hi0 (w' := w3.putObj (w.heap.size + 1) (.loop { r' with state := .exhausted })) (Nat.le_refl _) rfl rfl rfl (by simp) (fun k hk => World.putObj_heap_other hk) (World.putObj_heap_same (Array.getElem?_eq_some_iff.1 hl3).1)
      exact ⟨C3, T, hs4.sub (objs := Tr wo' ++ un) (by simp [Tr])⟩
    rintro e w3 ⟨v, C3, r, nobjs, rfl, ⟨xs, wo1, rfl, hor⟩, hb, hC, hcom, _, hn, hnb⟩
    rcases hor with ⟨hG, ⟨wo', rfl, hj⟩⟩ | ⟨c, wo', rfl, hj⟩
    · obtain ⟨w4, h1, h2⟩ := fin C3 w3 rec wo' (by rw [hst]; simp) hb hC hcom hn hnb
      rw [hpe] at h1
      exact ⟨none, w4, h1, _, h2, hr xs wo' hG hj⟩
    · obtain ⟨w4, h1, h2⟩ := fin C3 w3 ⟨.done, some c, fn, a.tmps, ps, assign, body, w.heap.size⟩ wo' (by simp) hb hC hcom hn hnb
      exact ⟨some c, w4, h1, wpIn_wide.2 (hx c xs wo' hj _ _ h2)⟩
end Go.Proofs.Ytljgdbgcleibjaa.A
namespace Go.Proofs.Ytljgdbgcleibjaa.A
open Go Go.RowKit
set_option linter.unusedVariables false
set_option linter.unusedSimpArgs false
set_option linter.unusedSectionVars false
variable {P : Program} {w0 : Base} {C0 C : CS} {T : TS} {S S' : AState} {a : Act} {w : World} {ops : Array Oper} {rest : List Oper} {o : Oper} {Q : Exit → AState → Prop} {rn : Option Nat}
def noDefer (o : Oper) : Bool := match o.op with | .defer _ => false | _ => true
theorem noDefer_ne {o : Oper} (h : noDefer o = true) : ∀ c, o.op ≠ .defer c := fun c e => by simp [noDefer, e] at h
theorem wpOpIn_of_awl {i : Nat} {o : Oper} (hi : ops[i]? = some o) (ho : ∀ c, o.op ≠ .defer c) {R : AState → Prop} {Q' : Exit → Act → World → Prop} {K : Act → World → Prop} (h : AWL P w0 C0 ops [o] (fun e S' => e = .normal ∧ R S') S) (hs : Sim w0 C0 S a w)
    (hK : ∀ a' w' S', R S' → Sim w0 C0 S' a' w' → K a' w') : wpOpIn (Fr rn) 0 P ops Q' i K a w := by
  have h1 := h a w hs
  unfold wpList at h1
  unfold wpOpIn
  simp only [hi]
  by_cases hw : Region.wanted o (yielded ops a.tmps) = true
  · rw [if_pos hw] at h1 ⊢
    have h2 : o.wp P a w (wpList P ops (Lift w0 C0 (fun e S' => e = .normal ∧ R S')) []) (Lift w0 C0 (fun e S' => e = .normal ∧ R S')) := by
      rcases h1 with h1 | ⟨_, a1, w1, S1, _, he, _⟩
      · exact h1
      · cases he
    have hn : ∀ a1 w1, wpList P ops (Lift w0 C0 (fun e S' => e = .normal ∧ R S')) [] a1 w1 → K a1 w1 := by
      rintro a1 w1 ⟨S1, hs1, _, h⟩
      exact hK a1 w1 S1 h hs1
    refine ⟨fun _ _ => trivial, ?_⟩
    rw [Oper.semAt_eq _ _ _ ho]
    unfold Oper.wp at h2
    generalize (execOp a.eval o).run P w = res at h2
    cases res with
    | ok x w1 =>
      cases x with
      | value v => exact hn _ _ h2
      | skip => exact hn _ _ h2
      | defer d => exact hn _ _ h2
      | enter f args =>
        refine ⟨fun h => by simp [Fr, Fence.wide] at h, callsIn_fr _ (Calls.mono h2 ?_)⟩
        intro e w2 he
        cases e with
        | returned v => exact hn _ _ he
        | panicked chain => obtain ⟨S1, _, he, _⟩ := he; cases he
        | outgrown => obtain ⟨a1, w1, S1, _, he, _⟩ := he; cases he
      | row r args => exact ⟨fun h => by simp [Fr, Fence.wide] at h, rowsIn_fr _ (h2.mono fun v w' h => hn _ _ h)⟩
      | _ => exact h2.elim
    | halt x w1 =>
      cases x with
      | panic v => obtain ⟨S1, _, he, _⟩ := h2; cases he
      | _ => exact h2.elim
  · rw [if_neg hw] at h1 ⊢
    obtain ⟨S1, hs1, _, h⟩ := h1
    exact ⟨fun _ _ => trivial, hK _ _ S1 h hs1⟩
theorem draw_tailI {m : Nat} (hback : ∀ i, i < ops.size → ∀ j ∈ depsOf ops i, j < i) (hdeps : ∀ k, m + k + 1 < ops.size → m + k ∈ depsOf ops (m + k + 1)) : ∀ (l : List Oper) (k fuel : Nat) (listed : Array Bool) (a : Act) (w : World), listed.size = ops.size → m + k + l.length = ops.size → (∀ (j : Nat) (o : Oper), l[j]? = some o → ops[m + k + j]? = some o) →
    (∀ j, j < m + k → listed.getD j false = true) → (∀ j, m + k ≤ j → j < ops.size → listed.getD j false = false) → l.length ≤ fuel → wpListIn (Fr rn) 0 P ops (Lift w0 C0 Q) l a w → wpAnyIn (Fr rn) 0 P .any ops (Lift w0 C0 Q) fuel listed a w := by
  intro l
  induction l with
  | nil =>
    intro k fuel listed a w hsz hlen _ hall _ hf hw
    have hq : Lift w0 C0 Q .normal a w := hw
    have hr : Region.ready .any ops listed = [] := by
      cases hr : Region.ready .any ops listed with
      | nil => rfl
      | cons j r =>
        have hj : j ∈ Region.ready .any ops listed := by rw [hr]; simp
        obtain ⟨k1, k2, _⟩ := ready_deps hj
        simp at hlen
        have := hall j (by omega)
        have hjs : j < listed.size := by omega
        simp [Array.getD, hjs] at this k2
        rw [this] at k2; cases k2
    cases fuel with
    | zero => exact ⟨hr, hq⟩
    | succ f => exact ⟨fun _ => hq, fun j hj => by rw [hr] at hj; cases hj⟩
  | cons o l ih =>
    intro k fuel listed a w hsz hlen hops hall hnone hf hw
    simp only [List.length_cons] at hlen hf
    obtain ⟨fuel, rfl⟩ : ∃ f, fuel = f + 1 := ⟨fuel - 1, by omega⟩
    have hself : listed.getD (m + k) false = false := hnone _ (Nat.le_refl _) (by omega)
    refine ⟨fun hr => ?_, fun i hi => ?_⟩
    · exfalso
      -- the first of the tail is ready: all ahead of it are listed
      have hks : m + k < listed.size := by omega
      have h0 : listed.getD (m + k) true = false := by simp [Array.getD, hks] at hself ⊢; exact hself
      have ho := hops 0 o rfl
      rw [Nat.add_zero] at ho
      have hb : ∀ j ∈ depsOf ops (m + k), listed.getD j false = true := fun j hj => hall j (hback _ (by omega) j hj)
      have : m + k ∈ Region.ready .any ops listed := mem_ready.2 ⟨h0, o, ho, fun e he hbind => hb _ (by unfold depsOf; rw [ho]; exact List.mem_map.2 ⟨e, List.mem_filter.2 ⟨by simpa using he, hbind⟩, rfl⟩)⟩
      rw [hr] at this; cases this
    · obtain ⟨h1, h2, h3⟩ := ready_deps hi
      have hi' : i < listed.size := by omega
      have hlf : listed.getD i false = false := by simp [Array.getD, hi'] at h2 ⊢; exact h2
      have hge : m + k ≤ i := by
        rcases Nat.lt_or_ge i (m + k) with h | h
        · rw [hall i h] at hlf; cases hlf
        · exact h
      have hik : i = m + k := by
        rcases Nat.lt_or_ge (m + k) i with h | h
        · exfalso
          have hd := hdeps (i - m - 1) (by omega)
          rw [show m + (i - m - 1) + 1 = i by omega] at hd
          have := h3 _ hd
          rw [hnone _ (by omega) (by omega)] at this; cases this
        · omega
      subst hik
      have ho := hops 0 o rfl
      rw [Nat.add_zero] at ho
      unfold wpListIn at hw
      unfold wpOpIn
      simp only [ho]
      have hnil : ∀ a w, wpListIn (Fr rn) 0 P ops (Lift w0 C0 Q) l a w → wpAnyIn (Fr rn) 0 P .any ops (Lift w0 C0 Q) fuel (listed.setIfInBounds (m + k) true) a w := fun a' w' hq =>
        ih (k + 1) fuel _ a' w' (by simp [hsz]) (by omega) (fun j o' hj => by have := hops (j + 1) o' (by simpa using hj); rw [show m + (k + 1) + j = m + k + (j + 1) by omega]; exact this)
          (fun j hj => by
            by_cases e : m + k = j
            · subst e; simp [Array.getD, hi']
            · exact getD_set_true (hall j (by omega)))
          (fun j hj hjs => by rw [getD_set_ne false (by omega)]; exact hnone j (by omega) hjs) (by omega) hq
      split
      · rename_i hw'
        rw [if_pos hw'] at hw
        exact Go.Oper.wpIn_mono hnil hw
      · rename_i hw'
        rw [if_neg hw'] at hw
        exact ⟨fun _ _ => trivial, hnil _ _ hw.2⟩
theorem draw_anyI {ds : List Nat} {Vs : List SV} {ks : List (List Nat)} {tl : List Oper} (hok : drawOk ops ds = true) (hlen : ds.length + tl.length = ops.size) (htl : ∀ (j : Nat) (o : Oper), tl[j]? = some o → ops[ds.length + j]? = some o)
    (hstep : ∀ i, i < ds.length → DrawStep P w0 C0 ops ds Vs ks S i) (hnd : ∀ o ∈ ops.toList, ∀ c, o.op ≠ .defer c) (hL : AWLI rn P w0 C0 ops tl Q (puts ds Vs ks ds.length S)) :
    ∀ (fuel : Nat) (listed : Array Bool) (a : Act) (w : World) (S1 : AState), listed.size = ops.size → (List.range ops.size).countP (fun i => !listed.getD i false) ≤ fuel → (∀ j, ds.length ≤ j → j < ops.size → listed.getD j false = false) → (∀ j, listed.getD j false = true → ∀ i ∈ depsOf ops j, listed.getD i false = true) →
      Mid ds Vs ks S listed S1 → Sim w0 C0 S1 a w → wpAnyIn (Fr rn) 0 P .any ops (Lift w0 C0 Q) fuel listed a w := by
  obtain ⟨hd, hne, hback, hcert, hdeps⟩ := drawOk_spec hok
  have fin : ∀ (fuel : Nat) (listed : Array Bool) (a : Act) (w : World) (S1 : AState), listed.size = ops.size → (List.range ops.size).countP (fun i => !listed.getD i false) ≤ fuel → (∀ j, ds.length ≤ j → j < ops.size → listed.getD j false = false) → (∀ i, i < ds.length → listed.getD i false = true) →
      Mid ds Vs ks S listed S1 → Sim w0 C0 S1 a w → wpAnyIn (Fr rn) 0 P .any ops (Lift w0 C0 Q) fuel listed a w := by
    intro fuel listed a w S1 hsz hf hnone hall hmid hs
    refine draw_tailI (m := ds.length) hback hdeps tl 0 fuel listed a w hsz (by omega) (fun j o hj => by rw [Nat.add_zero]; exact htl j o hj) (fun j hj => hall j (by omega)) (fun j hj hjs => hnone j (by omega) hjs) ?_ (hL a w (hmid.final hall hs))
    have : (List.range ops.size).countP (fun i => !listed.getD i false) ≥ tl.length := by
      have e : List.range ops.size = List.range ds.length ++ (List.range tl.length).map (ds.length + ·) := by rw [← hlen, List.range_add]
      rw [e, List.countP_append]
      have : ((List.range tl.length).map (ds.length + ·)).countP (fun i => !listed.getD i false) = ((List.range tl.length).map (ds.length + ·)).length := by
        rw [List.countP_eq_length]
        intro j hj
        obtain ⟨k, hk, rfl⟩ := List.mem_map.1 hj
        rw [hnone _ (by omega) (by have := List.mem_range.1 hk; omega)]; rfl
      rw [List.length_map, List.length_range] at this; omega
    omega
  intro fuel
  induction fuel with
  | zero =>
    intro listed a w S1 hsz hf hnone hcl hmid hs
    have hz : (List.range ops.size).countP (fun j => !listed.getD j false) = 0 := by omega
    refine fin 0 listed a w S1 hsz hf hnone (fun j hj => ?_) hmid hs
    have := List.countP_eq_zero.1 hz j (List.mem_range.2 (by omega))
    simpa using this
  | succ fuel ih =>
    intro listed a w S1 hsz hf hnone hcl hmid hs
    by_cases hall : ∀ i, i < ds.length → listed.getD i false = true
    · exact fin _ listed a w S1 hsz hf hnone hall hmid hs
    refine ⟨fun hr => absurd (fun i hi => all_listed hsz hback hr i (by omega)) hall, fun i hi => ?_⟩
    obtain ⟨h1, h2, h3⟩ := ready_deps hi
    have hi' : i < listed.size := by omega
    have hlf : listed.getD i false = false := by simp [Array.getD, hi'] at h2 ⊢; exact h2
    have him : i < ds.length := by
      rcases Nat.lt_or_ge i ds.length with h | h
      · exact h
      · exfalso
        rcases Nat.lt_or_ge ds.length i with h' | h'
        · have hd' := hdeps (i - ds.length - 1) (by omega)
          rw [show ds.length + (i - ds.length - 1) + 1 = i by omega] at hd'
          have := h3 _ hd'
          rw [hnone _ (by omega) (by omega)] at this; cases this
        · have e : i = ds.length := by omega
          subst e
          refine hall (fun j hj => ?_)
          have key : ∀ k, k ≤ ds.length → ∀ j, ds.length - k = j → j < ds.length → listed.getD j false = true := by
            intro k
            induction k using Nat.strongRecOn with
            | _ k ihk =>
              intro hk j hj hji
              obtain ⟨j', hj1, hj2, hj3⟩ := hcert h1 j hji
              by_cases hjm : j' = ds.length
              · subst hjm; exact h3 j hj3
              · exact hcl j' (ihk (ds.length - j') (by omega) (by omega) j' (by omega) (by omega)) j hj3
          exact key (ds.length - j) (by omega) j (by omega) hj
    obtain ⟨o, ho, hdst⟩ := hd i him
    have hah : ∀ c, listed.getD c false = true → ahead ops c i = false := by
      intro c g2
      cases h : ahead ops c i with
      | false => rfl
      | true =>
        exfalso
        unfold ahead at h
        rw [Bool.or_eq_true] at h
        rcases h with h | h
        · obtain ⟨x, hx, hb⟩ := List.any_eq_true.1 h
          have := Nat.eq_of_beq_eq_true hb; subst this
          have := hcl c g2 _ hx; rw [hlf] at this; cases this
        · obtain ⟨d, hd1, hd2⟩ := List.any_eq_true.1 h
          obtain ⟨x, hx, hb⟩ := List.any_eq_true.1 hd2
          have := Nat.eq_of_beq_eq_true hb; subst this
          have := hcl d (hcl c g2 _ hd1) _ hx; rw [hlf] at this; cases this
    have hnk : ∀ t, liveB ops ks ds.length i t = true → ¬ Killed ks ds.length listed t := by
      rintro t hl ⟨c, g1, g2, g3⟩
      unfold liveB at hl
      have := List.all_eq_true.1 hl c (List.mem_range.2 g1)
      simp only [Bool.or_eq_true, Bool.not_eq_true', g3] at this
      rcases this with (h | h) | h
      · cases h
      · have := Nat.eq_of_beq_eq_true h; subst this; rw [hlf] at g2; cases g2
      · rw [hah c g2] at h; cases h
    refine wpOpIn_of_awl ho (hnd o (by simpa using List.mem_of_getElem? (show ops.toList[i]? = some o by simpa using ho))) (hstep i him o ho S1 hmid.nt hmid.objs (fun j hj hjm hl => hmid.done j hjm (h3 j hj) (hnk _ hl)) (fun t x ht hl hx => hmid.rest t x ht (hnk _ hl) hx) (fun t tok sz l hx => (hmid.own t tok sz l hx).imp (fun h => let ⟨k, h1, h2, h3⟩ := h; ⟨k, h1, (by rintro e; rw [e, hlf] at h2; cases h2), hah k h2, h3⟩) id)) hs (fun a' w' S' hS' hs' => ?_)
    have hc := count_set (n := ops.size) h1 hi' hlf
    refine ih _ a' w' _ (by simp [hsz]) (by omega) (fun j hj hjs => by rw [getD_set_ne false (by omega)]; exact hnone j hj hjs) ?_ (hmid.step hne him hi' hS') hs'
    intro j hj k hk
    by_cases hij : i = j
    · subst hij; exact getD_set_true (h3 k hk)
    · rw [getD_set_ne false hij] at hj; exact getD_set_true (hcl j hj k hk)
theorem awpi_draw {id : Nat} {l : List Oper} (ds : List Nat) (Vs : List SV) (ks : List (List Nat)) (hm : P.follows .mixedOrders = true) (hok : drawOk l.toArray ds = true) (hlen : Nat.ble ds.length l.length = true)
    (hstep : ∀ i, i < ds.length → DrawStep P w0 C0 l.toArray ds Vs ks S i) (hnd : l.all noDefer = true) (hL : AWLI rn P w0 C0 l.toArray (l.drop ds.length) Q (puts ds Vs ks ds.length S)) : AWPI rn P w0 C0 (.region id l.toArray true) Q S := by
  intro a w hs
  have hlen' := Nat.le_of_ble_eq_true hlen
  refine wpIn_region_any hm (draw_anyI hok (tl := l.drop ds.length) (by simp; omega) (fun j o hj => by rw [List.getElem?_drop] at hj; simpa using hj) hstep (fun o ho => noDefer_ne (List.all_eq_true.1 hnd o ho)) hL _ _ a _ S (by simp) ?_ (fun j _ _ => by simp [Array.getD]) ?_ ⟨rfl, rfl, fun i hi hl => ?_, fun t x _ _ hx => hx, fun t tok sz l h => Or.inr h⟩ ?_)
  · have := List.countP_le_length (p := fun i => !(Array.replicate l.toArray.size false).getD i false) (l := List.range l.toArray.size); simpa using this
  · intro j hj; simp [Array.getD] at hj
  · simp [Array.getD] at hl
  · obtain ⟨C, T, hs⟩ := hs
    exact ⟨C, T, hs.drew⟩
theorem awpi_drawS {id : Nat} {l : List Oper} (ds : List Nat) (Vs : List SV) (ks : List (List Nat)) (tks : List (Nat × Nat)) (hm : P.follows .mixedOrders = true) (hok : drawOk l.toArray ds = true) (hlen : Nat.ble ds.length l.length = true) (hlv : Nat.beq ds.length Vs.length = true)
    (hstep : Steps (Step1 P w0 C0 l.toArray ds Vs ks tks S) ds.length) (how : ownAll l.toArray ds Vs ks tks S = true) (hnd : l.all noDefer = true) (hQ : AWLI rn P w0 C0 l.toArray (l.drop ds.length) Q (puts ds Vs ks ds.length S)) : AWPI rn P w0 C0 (.region id l.toArray true) Q S :=
  awpi_draw ds Vs ks hm hok hlen (fun i hi => (hstep.all i hi).draw how hlv) hnd hQ
theorem awp_drawSI {id : Nat} {l : List Oper} (ds : List Nat) (Vs : List SV) (ks : List (List Nat)) (tks : List (Nat × Nat)) (hm : P.follows .mixedOrders = true) (hok : drawOk l.toArray ds = true) (hlen : Nat.ble ds.length l.length = true) (hlv : Nat.beq ds.length Vs.length = true)
    (hstep : Steps (Step1 P w0 C0 l.toArray ds Vs ks tks S) ds.length) (how : ownAll l.toArray ds Vs ks tks S = true) (hnd : l.all noDefer = true) (hQ : AWLI none P w0 C0 l.toArray (l.drop ds.length) Q (puts ds Vs ks ds.length S)) : AWP P w0 C0 (.region id l.toArray true) Q S :=
  fun a w hs => wpIn_wide.1 (awpi_drawS ds Vs ks tks hm hok hlen hlv hstep how hnd hQ a w hs)
end Go.Proofs.Ytljgdbgcleibjaa.A
namespace Go.Proofs.Ytljgdbgcleibjaa.A
open Go Go.RowKit
set_option linter.unusedVariables false
set_option linter.unusedSimpArgs false
set_option linter.unusedSectionVars false
variable {P : Program} {w0 : Base} {C0 C : CS} {T : TS} {S S' : AState} {a : Act} {w : World} {ops : Array Oper} {rest : List Oper} {o : Oper} {Q : Exit → AState → Prop}
structure Box1 (P : Program) (p ty : Nat) (S : AState) (r : AV) : Prop where
  ex : ∃ (b i : Nat) (rw' : Bool), S.get p = some (.a (.v (.pointer (some ⟨b, 0, none⟩)))) ∧ S.objs[i]? = some ⟨b, rw', .box [r]⟩ ∧ aggT P ty = some false
theorem Box1.run {p ty : Nat} {r : AV} (hs : SimC w0 C0 C T S a w) (h : Box1 P p ty S r) : ∃ ad v, (asAddr (a.tmps.getD p undef)).run P w = .ok ad w ∧ (loadVar ty ad).run P w = .ok v w ∧ Rel C r v := by
  obtain ⟨b, i, rw', hp, hi, hA⟩ := h.ex
  have hv := hs.slots _ _ hp
  have hv' : a.tmps.getD p undef = .pointer (some ⟨b, 0, none⟩) := by generalize a.tmps.getD p undef = u at hv; cases hv; rfl
  obtain ⟨arr0, g1, g2⟩ := box_cells (hs.objs _ (mem_of_get hi)).1
  obtain ⟨u, hu, hr⟩ := g1.get (j := 0) rfl
  have hc := g2 0 u hu
  exact ⟨⟨b, 0, none⟩, u, by rw [hv']; simp [asAddr], run_loadVar1 hA hc, hr⟩
inductive ResK (P : Program) (S : AState) : ResultVar → AV → Prop
  | tmp {t : Nat} {c : AV} (h : Res S t c) : ResK P S (.tmp t) c
  | box {p ty : Nat} {c : AV} (h : BoxR P p ty S c) : ResK P S (.cell p ty) c
  | one {p ty b : Nat} {c : AV} {rw' : Bool} (i : Nat) (hp : S.get p = some (.a (.v (.pointer (some ⟨b, 0, none⟩))))) (hi : S.objs[i]? = some ⟨b, rw', .box [c]⟩) (hA : aggT P ty = some false) : ResK P S (.cell p ty) c
def resOne (tmps : Array Value) : ResultVar → Sem Value
  | .tmp t => pure (tmps.getD t undef)
  | .cell a t => do loadVar t (← asAddr (tmps.getD a undef))
theorem ResK.run {rv : ResultVar} {c : AV} (hs : SimC w0 C0 C T S a w) (h : ResK P S rv c) : ∃ v, (resOne a.tmps rv).run P w = .ok v w ∧ Rel C c v := by
  cases h with
  | tmp h => exact ⟨_, rfl, h.rel hs⟩
  | box h => obtain ⟨ad, v, h1, h2, h3⟩ := h.run hs; exact ⟨v, by simp only [resOne, Sem.run_bind, h1, Result.andThen_ok]; exact h2, h3⟩
  | one i hp hi hA => obtain ⟨ad, v, h1, h2, h3⟩ := (Box1.mk ⟨_, i, _, hp, hi, hA⟩ : Box1 P _ _ S c).run hs; exact ⟨v, by simp only [resOne, Sem.run_bind, h1, Result.andThen_ok]; exact h2, h3⟩
theorem resK1_run {fn : Func} {rv : ResultVar} (hr : fn.results = #[rv]) : ∀ (w0 : Base) (C0 C : CS) (T : TS) (S : AState) (a : Act) (w : World) (r : AV), SimC w0 C0 C T S a w → ResK P S rv r → ∃ v, (results fn a.tmps).run P w = .ok v w ∧ Rel C r v := by
  intro w0 C0 C T S a w r hs h
  obtain ⟨v, h1, h2⟩ := h.run hs
  refine ⟨v, ?_, h2⟩
  cases rv <;> simp only [resOne] at h1 <;> simp [results, hr, h1] <;> simpa using h1
def Res2K (P : Program) (rv rv' : ResultVar) (S : AState) (r : AV) : Prop := ∃ c c', ResK P S rv c ∧ ResK P S rv' c' ∧ r = .tup [c, c']
theorem resK2_run {fn : Func} {rv rv' : ResultVar} (hr : fn.results = #[rv, rv']) : ∀ (w0 : Base) (C0 C : CS) (T : TS) (S : AState) (a : Act) (w : World) (r : AV), SimC w0 C0 C T S a w → Res2K P rv rv' S r → ∃ v, (results fn a.tmps).run P w = .ok v w ∧ Rel C r v := by
  rintro w0 C0 C T S a w r hs ⟨c, c', h, h', rfl⟩
  obtain ⟨v, h1, h2⟩ := h.run hs
  obtain ⟨v', h1', h2'⟩ := h'.run hs
  refine ⟨.tuple #[v, v'], ?_, rel_tup.2 (Rels.cons h2 (Rels.cons h2' Rels.nil))⟩
  have e : results fn a.tmps = (do let vs ← fn.results.mapM (resOne a.tmps); pure (if h : vs.size = 1 then vs[0] else .tuple vs)) := by
    unfold results
    congr 1
  rw [e, hr]
  simp [Sem.run_bind, h1, h1']
end Go.Proofs.Ytljgdbgcleibjaa.A
namespace Go.Proofs.Ytljgdbgcleibjaa.A
open Go Go.RowKit
set_option linter.unusedVariables false
set_option linter.unusedSimpArgs false
set_option maxRecDepth 100000
theorem TF.un36 : Try.prog.underlying 36 = some (.pointer 82) := by kernel_rfl
theorem TF.f82_2 : fieldT Try.prog 82 2 = some (2, 80) := by kernel_rfl
theorem TF.sz80 : szT Try.prog 80 = some 1 := by kernel_rfl
theorem TF.agg80 : aggT Try.prog 80 = some false := by kernel_rfl
theorem TF.sl80 : sliceT Try.prog 80 = some 36 := by kernel_rfl
theorem TF.zero47 : ZeroT Try.prog 47 [.v (.int .i64 0), .v (.int .i64 0), .v (.int .i64 0), .v (.int .u64 0)] := ⟨[(.int .i64 0), (.int .i64 0), (.int .i64 0), (.int .u64 0)], by kernel_rfl, (LeCells.refl _)⟩
theorem TF.f82_0 : fieldT Try.prog 82 0 = some (0, 78) := by kernel_rfl
theorem TF.sz78 : szT Try.prog 78 = some 1 := by kernel_rfl
theorem TF.agg78 : aggT Try.prog 78 = some false := by kernel_rfl
theorem TF.sl78 : sliceT Try.prog 78 = some 47 := by kernel_rfl
theorem TF.en46 : entersT Try.prog 46 := enters_of Try.func46 (by kernel_rfl) (by kernel_rfl)
theorem leaf_ok (b : Nat) (ks : List Sp) (vs : List Int) (kd : List AV) : AC Try.prog 46 [ndA b ks vs kd] [] (fun r n => n = [] ∧ r = boolA kd.isEmpty) := by
 refine ac_of_awp (rs := [2]) (nt := 13) Try.func46 rfl rfl rfl rfl (fun w0 C0 hq => ?_)
 unfold ndA
 refine awp_seq ?_
 refine awp_region ?_
 refine r_assign rfl rfl ?_
 refine awl_nil ?_
 refine x_then ?_
 refine awp_seq ?_
 refine awp_region ?_
 refine r_move rfl rfl ?_
 refine r_pnnil rfl (by first | exact .pt _ _ | exact .nil | exact .v _ | exact .cp _) TF.un36 rfl ?_
 refine r_move rfl rfl ?_
 refine g_run rfl rfl rfl ?_
 refine r_move rfl rfl ?_
 refine g_run rfl rfl rfl ?_
 refine r_nilCheck rfl (by first | exact .pt _ _ | exact .v _ | exact .cp _) rfl ?_
 refine g_run rfl rfl rfl ?_
 refine r_fieldpt rfl TF.f82_2 TF.sz80 rfl ?_
 refine g_run rfl rfl rfl ?_
 refine r_load1 rfl TF.agg80 rfl ?_
 refine g_run rfl rfl rfl ?_
 refine r_lenS rfl rfl TF.sl80 rfl ?_
 refine g_run rfl rfl rfl ?_
 refine r_cmp rfl rfl rfl rfl ?_
 refine r_pickT rfl rfl rfl rfl ?_
 refine r_assign rfl rfl ?_
 refine awl_nil ?_
 refine x_then ?_
 refine awp_ret ?_
 exact ⟨(.inl rfl), _, [], (.one (by first | exact .mk rfl rfl | exact .nil rfl)), ⟨rfl, by cases kd <;> simp [boolA] <;> rfl⟩, (List.nil_sublist _), (by simp)⟩
theorem least_ok (b : Nat) (ks : List Sp) (vs : List Int) (kd : List AV) (x : Sp) (hx : ks[0]? = some x) (hl : ks.length ≤ 1000000) : AC Try.prog 45 [ndA b ks vs kd] [] (fun r n => n = [] ∧ r = .tup [spA x, boolA true]) := by
 refine ac_of_awpG (Res2K Try.prog (.cell 2 47) (.tmp 3)) (nt := 21) Try.func45 rfl rfl rfl (resK2_run rfl) (fun w0 C0 hq => ?_)
 unfold ndA
 have hpos : 0 < ks.length := (List.getElem?_eq_some_iff.1 hx).1
 refine awp_seq ?_
 refine awp_region ?_
 refine r_alloc TF.zero47 rfl (fun b2 => ?_)
 refine r_assign rfl rfl ?_
 refine awl_nil ?_
 refine x_then ?_
 refine awp_seq ?_
 refine awp_seq ?_
 refine awp_region ?_
 refine r_move rfl rfl ?_
 refine r_pnil rfl (by first | exact .pt _ _ | exact .nil | exact .v _ | exact .cp _) TF.un36 rfl ?_
 refine r_move rfl rfl ?_
 refine g_run rfl rfl rfl ?_
 refine r_move rfl rfl ?_
 refine g_run rfl rfl rfl ?_
 refine r_nilCheck rfl (by first | exact .pt _ _ | exact .v _ | exact .cp _) rfl ?_
 refine g_run rfl rfl rfl ?_
 refine r_fieldpt rfl TF.f82_0 TF.sz78 rfl ?_
 refine g_run rfl rfl rfl ?_
 refine r_load1 rfl TF.agg78 rfl ?_
 refine g_run rfl rfl rfl ?_
 refine r_lenS rfl rfl TF.sl78 rfl ?_
 refine g_run rfl rfl rfl ?_
 refine r_cmp rfl rfl rfl rfl ?_
 refine r_pickF rfl rfl rfl rfl ?_
 refine awl_nil ?_
 refine x_then ?_
 refine awp_cond rfl (fun hc0 => ?_) (fun hc0 => ?_)
 ·
  exfalso; simp at hc0; subst hc0; simp at hpos
 ·
  refine awp_skip ?_
  refine x_then ?_
  refine awp_seq ?_
  refine awp_region ?_
  refine r_move rfl rfl ?_
  refine r_nilCheck rfl (by first | exact .pt _ _ | exact .v _ | exact .cp _) rfl ?_
  refine r_fieldpt rfl TF.f82_0 TF.sz78 rfl ?_
  refine r_load1 rfl TF.agg78 rfl ?_
  refine r_index rfl rfl rfl TF.sl78 TF.sz47 (by omega) (get_map hx) rfl ?_
  refine r_loadA rfl TF.agg47 TF.sz47 rfl rfl ?_
  refine r_store 0 rfl rfl rfl TF.sz47 rfl rfl rfl ?_
  refine r_assign rfl rfl ?_
  refine awl_nil ?_
  refine x_then ?_
  refine awp_ret ?_
  exact ⟨(.inl rfl), _, [], ⟨_, _, (.box (by first | exact .mk' 0 rfl rfl TF.agg47 TF.sz47 rfl | exact .mk' 1 rfl rfl TF.agg47 TF.sz47 rfl | exact .mk' 2 rfl rfl TF.agg47 TF.sz47 rfl | exact .mk' 3 rfl rfl TF.agg47 TF.sz47 rfl | exact .mk' 4 rfl rfl TF.agg47 TF.sz47 rfl | exact .mk' 5 rfl rfl TF.agg47 TF.sz47 rfl)), (.tmp (by first | exact .mk rfl rfl | exact .nil rfl)), rfl⟩, ⟨rfl, rfl⟩, (List.nil_sublist _), (by simp)⟩
theorem size_ok (b : Nat) (ks : List Sp) (vs : List Int) (kd : List AV) (hl : ks.length ≤ 1000000) : AC Try.prog 80 [ndA b ks vs kd] [] (fun r n => n = [] ∧ r = .v (.int .i64 (if kd.isEmpty then ks.length else kd.length : Nat))) := by
 refine ac_of_awp (rs := [2]) (nt := 19) Try.func80 rfl rfl rfl rfl (fun w0 C0 hq => ?_)
 unfold ndA
 refine awp_seq ?_
 refine awp_region ?_
 refine r_assign rfl rfl ?_
 refine awl_nil ?_
 refine x_then ?_
 refine awp_seq ?_
 refine awp_block ?_
 refine awp_seq ?_
 refine awp_region ?_
 refine r_move rfl rfl ?_
 refine r_pnil rfl (by first | exact .pt _ _ | exact .nil | exact .v _ | exact .cp _) TF.un36 rfl ?_
 refine r_assign rfl rfl ?_
 refine awl_nil ?_
 refine x_then ?_
 refine awp_cond rfl (fun hc0 => ?_) (fun hc0 => ?_)
 ·
  exfalso; cases hc0
 ·
  refine awp_seq ?_
  refine awp_region ?_
  refine r_move rfl rfl ?_
  refine r_call0 hq rfl rfl (.cons (.ev rfl rfl) .nil) (leaf_ok b ks vs kd) rfl TF.en46 rfl (fun r hr => ?_)
  obtain rfl := hr
  refine r_assign rfl rfl ?_
  refine awl_nil ?_
  refine x_then ?_
  refine awp_cond rfl (fun hc1 => ?_) (fun hc1 => ?_)
  ·
   have he : kd.isEmpty = true := hc1
   refine awp_seq ?_
   refine awp_region ?_
   refine r_move rfl rfl ?_
   refine r_nilCheck rfl (by first | exact .pt _ _ | exact .v _ | exact .cp _) rfl ?_
   refine r_fieldpt rfl TF.f82_0 TF.sz78 rfl ?_
   refine r_load1 rfl TF.agg78 rfl ?_
   refine r_lenS rfl rfl TF.sl78 rfl ?_
   refine r_assign rfl rfl ?_
   refine awl_nil ?_
   refine x_then ?_
   refine awp_ret ?_
   refine x_blockR ?_
   refine x_thenR ?_
   exact ⟨(.inl rfl), _, [], (.one (by first | exact .mk rfl rfl | exact .nil rfl)), ⟨rfl, by first | (rw [if_pos he]; simp; rfl) | (rw [if_neg (by simp [he])]; simp; rfl)⟩, (List.nil_sublist _), (by simp)⟩
  ·
   have he : kd.isEmpty = false := hc1
   refine awp_skip ?_
   refine x_block ?_
   refine x_then ?_
   refine awp_seq ?_
   refine awp_region ?_
   refine r_move rfl rfl ?_
   refine r_nilCheck rfl (by first | exact .pt _ _ | exact .v _ | exact .cp _) rfl ?_
   refine r_fieldpt rfl TF.f82_2 TF.sz80 rfl ?_
   refine r_load1 rfl TF.agg80 rfl ?_
   refine r_lenS rfl rfl TF.sl80 rfl ?_
   refine r_assign rfl rfl ?_
   refine awl_nil ?_
   refine x_then ?_
   refine awp_ret ?_
   exact ⟨(.inl rfl), _, [], (.one (by first | exact .mk rfl rfl | exact .nil rfl)), ⟨rfl, by first | (rw [if_pos he]; simp; rfl) | (rw [if_neg (by simp [he])]; simp; rfl)⟩, (List.nil_sublist _), (by simp)⟩
end Go.Proofs.Ytljgdbgcleibjaa.A
namespace Go.Proofs.Ytljgdbgcleibjaa.A
open Go Go.RowKit
set_option linter.unusedVariables false
set_option linter.unusedSimpArgs false
set_option maxRecDepth 100000
theorem TF.en86 : entersT Try.prog 86 := enters_of Try.func86 (by kernel_rfl) (by kernel_rfl)
theorem TF.zero3 : ZeroT Try.prog 3 [.v (.int .i64 0)] := ⟨[(.int .i64 0)], by kernel_rfl, (LeCells.refl _)⟩
theorem TF.zero4 : ZeroT Try.prog 4 [.v (.bool false)] := ⟨[(.bool false)], by kernel_rfl, (LeCells.refl _)⟩
theorem TF.sz4 : szT Try.prog 4 = some 1 := by kernel_rfl
theorem TF.agg4 : aggT Try.prog 4 = some false := by kernel_rfl
theorem TF.en56 : entersT Try.prog 56 := enters_of Try.func56 (by kernel_rfl) (by kernel_rfl)
theorem rev_getS {ks : List Sp} {k : Nat} {x : Sp} (h : ks.reverse[k]? = some x) : k < ks.length ∧ ks[ks.length - 1 - k]? = some x := by
  have hk : k < ks.length := by have := (List.getElem?_eq_some_iff.1 h).1; simpa using this
  rw [List.getElem?_reverse hk] at h
  exact ⟨hk, h⟩
def backS (ks : List Sp) (pre : List (List AV)) (x : List AV) : Prop := ∃ s, ks.reverse[pre.length]? = some s ∧ x = [.v (.int .i64 ((ks.length : Int) - 1 - (pre.length : Int))), spA s]
theorem tr_rwS {l : List OE} : ∀ e ∈ Tr l, e.rw = true := fun e he => by obtain ⟨e0, _, rfl⟩ := List.mem_map.1 he; rfl
theorem back_ok (ks : List Sp) : AC Try.prog 56 [.sl 4 (ks.map Sp.cs)] [] (fun r n => n = [] ∧ r = .fn 86 [.cp [.sl 4 (ks.map Sp.cs)]]) := by
 refine ac_of_awp (rs := [2]) (nt := 4) Try.func56 rfl rfl rfl rfl (fun w0 C0 hq => ?_)
 refine awp_seq ?_
 refine awp_region ?_
 refine r_box rfl rfl rfl (fun b1 => ?_)
 refine r_assign rfl rfl ?_
 refine awl_nil ?_
 refine x_then ?_
 refine awp_seq ?_
 refine awp_region ?_
 refine awl_imp (imp_commit 0 1 rfl rfl rfl rfl) ?_
 refine r_makeFunc rfl (.cons (.ev rfl rfl) .nil) rfl ?_
 refine r_assign rfl rfl ?_
 refine awl_nil ?_
 refine x_then ?_
 refine awp_ret ?_
 exact ⟨(.inl rfl), _, [], (.one (by first | exact .mk rfl rfl | exact .nil rfl)), ⟨rfl, rfl⟩, (List.nil_sublist _), (by simp)⟩
theorem back1_ok (ks : List Sp) (hl : ks.length ≤ 1000000) : IterS Try.prog 86 [.cp [.sl 4 (ks.map Sp.cs)]] [] (backS ks) (fun xs => xs.length = ks.length) := by
 intro l0 Cs J D hY wo hJ0
 refine awc_of_awpG Cs (so := Tr wo) (nt := 19) (fun S r => Result1 S [] r) Try.func86 rfl rfl rfl rfl (result1_run rfl) (fun w0 C0 hq hcs => ?_)
 refine awp_seq ?_
 refine awp_region ?_
 refine r_load1 rfl TF.agg78 rfl ?_
 refine r_lenS rfl rfl TF.sl78 rfl ?_
 refine r_ari _ rfl rfl rfl (wrap_id (by first | omega | (simp; omega))) rfl ?_
 refine r_assign rfl rfl ?_
 refine awl_nil ?_
 refine x_then ?_
 refine awp_block ?_
 refine awp_loop (fun nn0 S => ∃ k : Nat, ∃ pr : List (List AV), ∃ wv : List OE, S = ⟨19, [(0, .a (.v (.func (.yield l0) #[] #[]))), (1, .a (.cp [.sl 4 (ks.map Sp.cs)])), (3, .a (.v (.int .i64 ((ks.length : Int) - 1 - (k : Int)))))], Tr wv⟩ ∧ nn0 = ks.length - k ∧ (k ≤ ks.length) ∧ (pr.length = k) ∧ (J pr wv)) (ks.length - (0)) ⟨19, [(0, .a (.v (.func (.yield l0) #[] #[]))), (1, .a (.cp [.sl 4 (ks.map Sp.cs)])), (3, .a (.v (.int .i64 ((ks.length : Int) - 1 - ((0) : Int)))))], Tr (wo)⟩ ⟨rfl, (Slots.cons rfl (by first | exact .refl _ | exact .nilOwn _ _ | exact .nilSl _ | exact .ownSl _ _ _  | exact SV.le.ownEq (by simp) | exact SV.le.of_eq (by simp)) (Slots.cons rfl (by first | exact .refl _ | exact .nilOwn _ _ | exact .nilSl _ | exact .ownSl _ _ _  | exact SV.le.ownEq (by simp) | exact SV.le.of_eq (by simp)) (Slots.cons rfl (by first | exact .refl _ | exact .nilOwn _ _ | exact .nilSl _ | exact .ownSl _ _ _  | exact SV.le.ownEq (by simp) | exact SV.le.of_eq (by simp)) Slots.nil))), (by first | exact List.Sublist.refl _ | exact .cons_cons _ (.cons _ (.refl _)) | exact List.nil_sublist _ | exact .cons _ (.refl _) | exact .cons _ (.cons _ (.refl _)) | exact .cons _ (.cons _ (.cons _ (.refl _))) | exact .cons _ (.cons _ (.cons _ (.cons _ (.refl _)))) | exact .cons_cons _ (List.nil_sublist _))⟩ ⟨0, [], wo, rfl, rfl, Nat.zero_le _, rfl, hJ0⟩ ?_
 rintro nn0 _ ⟨k, pr, wv, rfl, rfl, hk, hpr, hJ⟩
 refine awp_seq ?_
 refine awp_seq ?_
 refine awp_region ?_
 refine r_move rfl rfl ?_
 refine r_cmp rfl rfl rfl rfl ?_
 refine awl_nil ?_
 refine x_then ?_
 refine awp_cond rfl (fun hc0 => ?_) (fun hc0 => ?_)
 ·
  have hkl : k < ks.length := by have := of_decide_eq_true hc0; simp at this; omega
  obtain ⟨x, hxr⟩ : ∃ x, ks.reverse[k]? = some x := get_lt (by simpa using hkl)
  have hx := (rev_getS hxr).2
  refine awp_skip ?_
  refine x_then ?_
  refine awp_seq ?_
  refine awp_block ?_
  refine awp_seq ?_
  refine awp_regionI ?_
  refine awli_op (fun c h => (by cases h)) ?_
  refine r_move rfl rfl ?_
  refine awl_nil ⟨rfl, ?_⟩
  refine awli_op (fun c h => (by cases h)) ?_
  refine r_move rfl rfl ?_
  refine awl_nil ⟨rfl, ?_⟩
  refine awli_op (fun c h => (by cases h)) ?_
  refine r_load1 rfl TF.agg78 rfl ?_
  refine awl_nil ⟨rfl, ?_⟩
  refine awli_op (fun c h => (by cases h)) ?_
  refine r_move rfl rfl ?_
  refine awl_nil ⟨rfl, ?_⟩
  refine awli_op (fun c h => (by cases h)) ?_
  refine r_index rfl rfl rfl TF.sl78 TF.sz47 (by omega) (by rw [show ((ks.length : Int) - 1 - (k : Int)).toNat = ks.length - 1 - k by omega]; exact get_map hx) rfl ?_
  refine awl_nil ⟨rfl, ?_⟩
  refine awli_op (fun c h => (by cases h)) ?_
  refine r_loadA rfl TF.agg47 TF.sz47 rfl rfl ?_
  refine awl_nil ⟨rfl, ?_⟩
  refine r_yieldS hq (un := []) (fun n => Tr n) rfl rfl (.cons (.ev rfl rfl) (.cons (.ev rfl rfl) .nil)) Cs hcs (hY pr [.v (.int .i64 ((ks.length : Int) - 1 - (k : Int))), spA x] wv hJ ⟨x, by rw [hpr]; exact hxr, by rw [hpr]⟩) (by rw [List.append_nil]; exact List.Perm.refl _) (fun n => by rw [List.append_nil]) rfl (fun bb nobjs hJ' => ?_)
  refine awli_op (fun c h => (by cases h)) ?_
  refine r_not rfl rfl ?_
  refine awl_nil ⟨rfl, ?_⟩
  refine awli_nil ?_
  refine x_then ?_
  refine awp_cond rfl (fun hc1 => ?_) (fun hc1 => ?_)
  ·
   have hbb : bb = false := by simpa using hc1
   subst hbb
   have hD2 : D _ _ := hJ'
   refine awp_ret ?_
   refine x_blockR ?_
   refine x_thenR ?_
   refine x_thenR ?_
   refine x_blockR ?_
   exact ⟨(.inl rfl), _, Tr nobjs, .none, ⟨_, nobjs, rfl, .inr hD2⟩, (List.Sublist.refl _), tr_rwS⟩
  ·
   have hbb : bb = true := by simpa using hc1
   subst hbb
   have hJ2 : J _ _ := hJ'
   refine awp_skip ?_
   refine x_block ?_
   refine x_then ?_
   refine awp_region ?_
   refine r_move rfl rfl ?_
   refine r_ari _ rfl rfl rfl (wrap_id (by first | omega | (simp; omega))) rfl ?_
   refine r_assign rfl rfl ?_
   refine awl_nil ?_
   refine x_then ?_
   refine ⟨ks.length - (k + 1), ⟨19, [(0, .a (.v (.func (.yield l0) #[] #[]))), (1, .a (.cp [.sl 4 (ks.map Sp.cs)])), (3, .a (.v (.int .i64 ((ks.length : Int) - 1 - ((k + 1) : Int)))))], Tr (nobjs)⟩, ⟨rfl, (Slots.cons rfl (by first | exact .refl _ | exact .nilOwn _ _ | exact .nilSl _ | exact .ownSl _ _ _  | exact SV.le.ownEq (by simp <;> omega) | exact SV.le.of_eq (by simp <;> omega)) (Slots.cons rfl (by first | exact .refl _ | exact .nilOwn _ _ | exact .nilSl _ | exact .ownSl _ _ _  | exact SV.le.ownEq (by simp <;> omega) | exact SV.le.of_eq (by simp <;> omega)) (Slots.cons rfl (by first | exact .refl _ | exact .nilOwn _ _ | exact .nilSl _ | exact .ownSl _ _ _  | exact SV.le.ownEq (by simp <;> omega) | exact SV.le.of_eq (by simp <;> omega)) Slots.nil))), (by first | exact List.Sublist.refl _ | exact .cons_cons _ (.cons _ (.refl _)) | exact List.nil_sublist _ | exact .cons _ (.refl _) | exact .cons _ (.cons _ (.refl _)) | exact .cons _ (.cons _ (.cons _ (.refl _))) | exact .cons _ (.cons _ (.cons _ (.cons _ (.refl _)))) | exact .cons_cons _ (List.nil_sublist _))⟩, (by omega), ⟨k + 1, pr ++ [[.v (.int .i64 ((ks.length : Int) - 1 - (k : Int))), spA x]], nobjs, rfl, rfl, (by omega), (by simp [hpr]), hJ2⟩⟩
 ·
  have hkl : ks.length ≤ k := by have := of_decide_eq_false hc0; simp at this; omega
  refine awp_exit ?_
  refine x_thenE ?_
  refine x_thenE ?_
  refine x_blockE ?_
  exact ⟨(.inr rfl), _, Tr wv, .none, ⟨pr, wv, rfl, .inl ⟨by omega, hJ⟩⟩, (List.Sublist.refl _), tr_rwS⟩
theorem find_ok (b : Nat) (ks : List Sp) (vs : List Int) (kd : List AV) (hl : ks.length ≤ 1000000) (k : Sp) : AC Try.prog 43 [ndA b ks vs kd, spA k] [] (fun r n => n = [] ∧ r = .tup [.v (.int .i64 ((findN k ks kd.isEmpty).1 : Nat)), boolA (findN k ks kd.isEmpty).2]) := by
 refine ac_of_awpG (Res2K Try.prog (.cell 4 3) (.cell 5 4)) (nt := 55) Try.func43 rfl rfl rfl (resK2_run rfl) (fun w0 C0 hq => ?_)
 refine awp_seq ?_
 refine awp_region ?_
 refine r_box rfl rfl rfl (fun b3 => ?_)
 refine r_alloc TF.zero3 rfl (fun b4 => ?_)
 refine r_alloc TF.zero4 rfl (fun b5 => ?_)
 refine awl_nil ?_
 refine x_then ?_
 refine awp_seq ?_
 refine awp_seq ?_
 refine awp_region ?_
 refine awl_imp (imp_commit 2 3 rfl rfl rfl rfl) ?_
 refine r_move rfl rfl ?_
 refine r_pnil rfl (by first | exact .pt _ _ | exact .nil | exact .v _ | exact .cp _) TF.un36 rfl ?_
 refine awl_nil ?_
 refine x_then ?_
 refine awp_cond rfl (fun hc0 => ?_) (fun hc0 => ?_)
 ·
  exfalso; cases hc0
 ·
  refine awp_skip ?_
  refine x_then ?_
  refine awp_seq ?_
  refine awp_seq ?_
  refine awp_region ?_
  refine r_move rfl rfl ?_
  refine r_call0 hq rfl rfl (.cons (.ev rfl rfl) .nil) (leaf_ok b ks vs kd) rfl TF.en46 rfl (fun r hr => ?_)
  obtain rfl := hr
  refine awl_nil ?_
  refine x_then ?_
  refine awp_cond rfl (fun hc1 => ?_) (fun hc1 => ?_)
  ·
   have he : kd.isEmpty = true := hc1
   rw [he]
   refine awp_seq ?_
   refine awp_seq ?_
   refine awp_region ?_
   refine r_move rfl rfl ?_
   refine r_nilCheck rfl (by first | exact .pt _ _ | exact .v _ | exact .cp _) rfl ?_
   refine r_fieldpt rfl TF.f82_0 TF.sz78 rfl ?_
   refine r_load1 rfl TF.agg78 rfl ?_
   refine r_lenS rfl rfl TF.sl78 rfl ?_
   refine r_move rfl rfl ?_
   refine awl_nil ?_
   refine x_then ?_
   refine awp_block ?_
   refine awp_loop (fun nn0 S => ∃ i : Nat, S = ⟨55, [(0, .a (ndA b ks vs kd)), (3, .a (.cp k.cs)), (4, .a (.v (.pointer (some ⟨b4, 0, none⟩)))), (5, .a (.v (.pointer (some ⟨b5, 0, none⟩)))), (19, .a (.sl 4 (ks.map Sp.cs))), (20, .a (.v (.int .i64 (((ks.map Sp.cs).length : Nat))))), (21, .a (.v (.int .i64 ((i : Int)))))], [⟨b5, true, .box [.v (.bool (false))]⟩, ⟨b4, true, .box [.v (.int .i64 (0))]⟩]⟩ ∧ nn0 = ks.length - i ∧ (i ≤ ks.length) ∧ (∀ j, j < i → ∀ y, ks[j]? = some y → ¬ 0 ≤ y.ord k)) (ks.length - (0)) ⟨55, [(0, .a (ndA b ks vs kd)), (3, .a (.cp k.cs)), (4, .a (.v (.pointer (some ⟨b4, 0, none⟩)))), (5, .a (.v (.pointer (some ⟨b5, 0, none⟩)))), (19, .a (.sl 4 (ks.map Sp.cs))), (20, .a (.v (.int .i64 (((ks.map Sp.cs).length : Nat))))), (21, .a (.v (.int .i64 (((0) : Int)))))], [⟨b5, true, .box [.v (.bool (false))]⟩, ⟨b4, true, .box [.v (.int .i64 (0))]⟩]⟩ ⟨rfl, (Slots.cons rfl (by first | exact .refl _ | exact .nilOwn _ _ | exact .nilSl _ | exact .ownSl _ _ _  | exact SV.le.of_eq (by simp)) (Slots.cons rfl (by first | exact .refl _ | exact .nilOwn _ _ | exact .nilSl _ | exact .ownSl _ _ _  | exact SV.le.of_eq (by simp)) (Slots.cons rfl (by first | exact .refl _ | exact .nilOwn _ _ | exact .nilSl _ | exact .ownSl _ _ _  | exact SV.le.of_eq (by simp)) (Slots.cons rfl (by first | exact .refl _ | exact .nilOwn _ _ | exact .nilSl _ | exact .ownSl _ _ _  | exact SV.le.of_eq (by simp)) (Slots.cons rfl (by first | exact .refl _ | exact .nilOwn _ _ | exact .nilSl _ | exact .ownSl _ _ _  | exact SV.le.of_eq (by simp)) (Slots.cons rfl (by first | exact .refl _ | exact .nilOwn _ _ | exact .nilSl _ | exact .ownSl _ _ _  | exact SV.le.of_eq (by simp)) (Slots.cons rfl (by first | exact .refl _ | exact .nilOwn _ _ | exact .nilSl _ | exact .ownSl _ _ _  | exact SV.le.of_eq (by simp)) Slots.nil))))))), (by first | exact List.Sublist.refl _ | exact .cons_cons _ (.cons _ (.refl _)) | exact List.nil_sublist _ | exact .cons _ (.refl _) | exact .cons _ (.cons _ (.refl _)) | exact .cons _ (.cons _ (.cons _ (.refl _))) | exact .cons _ (.cons _ (.cons _ (.cons _ (.refl _)))) | exact .cons_cons _ (List.nil_sublist _))⟩ ⟨0, rfl, rfl, Nat.zero_le _, (fun j h => by omega)⟩ ?_
   rintro nn0 _ ⟨i, rfl, rfl, hi, hno⟩
   refine awp_seq ?_
   refine awp_region ?_
   refine r_cmp rfl rfl rfl rfl ?_
   refine awl_nil ?_
   refine x_then ?_
   refine awp_seq ?_
   refine awp_cond rfl (fun hc2 => ?_) (fun hc2 => ?_)
   ·
    have hltx : i < ks.length := by have := of_decide_eq_true hc2; simpa using this
    obtain ⟨x, hx⟩ := get_lt hltx
    refine awp_skip ?_
    refine x_then ?_
    refine awp_seq ?_
    refine awp_block ?_
    refine awp_seq ?_
    refine awp_region ?_
    refine r_move rfl rfl ?_
    refine r_index rfl rfl rfl TF.sl78 TF.sz47 (by omega) (get_map hx) rfl ?_
    refine r_loadA rfl TF.agg47 TF.sz47 rfl rfl ?_
    refine r_alloc TF.zero47 rfl (fun b7 => ?_)
    refine r_assign rfl rfl ?_
    refine r_store 0 rfl rfl rfl TF.sz47 rfl rfl rfl ?_
    refine awl_nil ?_
    refine x_then ?_
    refine awp_seq ?_
    refine awp_region ?_
    refine r_loadAb 0 rfl rfl TF.agg47 TF.sz47 rfl rfl ?_
    refine r_loadA rfl TF.agg47 TF.sz47 rfl rfl ?_
    refine r_call0 hq rfl rfl (.cons (.ev rfl rfl) (.cons (.ev rfl rfl) .nil)) (order_ok x k) rfl TF.en55 rfl (fun r hr => ?_)
    obtain rfl := hr
    refine r_assign rfl rfl ?_
    refine awl_nil ?_
    refine x_then ?_
    refine awp_seq ?_
    refine awp_region ?_
    refine r_move rfl rfl ?_
    refine r_cmp rfl rfl rfl rfl ?_
    refine awl_nil ?_
    refine x_then ?_
    refine awp_cond rfl (fun hc3 => ?_) (fun hc3 => ?_)
    ·
     have h0 : 0 ≤ x.ord k := of_decide_eq_true hc3
     have hfh := findL_hit hx hno h0
     refine awp_seq ?_
     refine awp_region ?_
     refine r_move rfl rfl ?_
     refine r_move rfl rfl ?_
     refine r_cmp rfl rfl rfl rfl ?_
     refine r_store 2 rfl rfl rfl TF.sz3 rfl rfl rfl ?_
     refine r_store 1 rfl rfl rfl TF.sz4 rfl rfl rfl ?_
     refine awl_nil ?_
     refine x_then ?_
     refine awp_ret ?_
     refine x_blockR ?_
     refine x_thenR ?_
     refine x_thenR ?_
     refine x_blockR ?_
     refine x_thenR ?_
     refine x_thenR ?_
     exact ⟨(.inl rfl), _, [], ⟨_, _, (by first | exact .one 0 rfl rfl TF.agg3 | exact .one 1 rfl rfl TF.agg3 | exact .one 2 rfl rfl TF.agg3 | exact .one 3 rfl rfl TF.agg3 | exact .one 4 rfl rfl TF.agg3 | exact .one 5 rfl rfl TF.agg3), (by first | exact .one 0 rfl rfl TF.agg4 | exact .one 1 rfl rfl TF.agg4 | exact .one 2 rfl rfl TF.agg4 | exact .one 3 rfl rfl TF.agg4 | exact .one 4 rfl rfl TF.agg4 | exact .one 5 rfl rfl TF.agg4), rfl⟩, ⟨rfl, by rw [findN, if_pos rfl, hfh]; rfl⟩, (List.nil_sublist _), (by simp)⟩
    ·
     have h0 : ¬ 0 ≤ x.ord k := of_decide_eq_false hc3
     refine awp_skip ?_
     refine x_block ?_
     refine x_then ?_
     refine awp_region ?_
     refine r_ari _ rfl rfl rfl (wrap_id (by first | omega | (simp; omega))) rfl ?_
     refine r_move rfl rfl ?_
     refine awl_nil ?_
     refine x_then ?_
     refine ⟨ks.length - (i + 1), ⟨55, [(0, .a (ndA b ks vs kd)), (3, .a (.cp k.cs)), (4, .a (.v (.pointer (some ⟨b4, 0, none⟩)))), (5, .a (.v (.pointer (some ⟨b5, 0, none⟩)))), (19, .a (.sl 4 (ks.map Sp.cs))), (20, .a (.v (.int .i64 (((ks.map Sp.cs).length : Nat))))), (21, .a (.v (.int .i64 (((i + 1) : Int)))))], [⟨b5, true, .box [.v (.bool (false))]⟩, ⟨b4, true, .box [.v (.int .i64 (0))]⟩]⟩, ⟨rfl, (Slots.cons rfl (by first | exact .refl _ | exact .nilOwn _ _ | exact .nilSl _ | exact .ownSl _ _ _  | exact SV.le.of_eq (by simp)) (Slots.cons rfl (by first | exact .refl _ | exact .nilOwn _ _ | exact .nilSl _ | exact .ownSl _ _ _  | exact SV.le.of_eq (by simp)) (Slots.cons rfl (by first | exact .refl _ | exact .nilOwn _ _ | exact .nilSl _ | exact .ownSl _ _ _  | exact SV.le.of_eq (by simp)) (Slots.cons rfl (by first | exact .refl _ | exact .nilOwn _ _ | exact .nilSl _ | exact .ownSl _ _ _  | exact SV.le.of_eq (by simp)) (Slots.cons rfl (by first | exact .refl _ | exact .nilOwn _ _ | exact .nilSl _ | exact .ownSl _ _ _  | exact SV.le.of_eq (by simp)) (Slots.cons rfl (by first | exact .refl _ | exact .nilOwn _ _ | exact .nilSl _ | exact .ownSl _ _ _  | exact SV.le.of_eq (by simp)) (Slots.cons rfl (by first | exact .refl _ | exact .nilOwn _ _ | exact .nilSl _ | exact .ownSl _ _ _  | exact SV.le.of_eq (by simp)) Slots.nil))))))), (by first | exact List.Sublist.refl _ | exact .cons_cons _ (.cons _ (.refl _)) | exact List.nil_sublist _ | exact .cons _ (.refl _) | exact .cons _ (.cons _ (.refl _)) | exact .cons _ (.cons _ (.cons _ (.refl _))) | exact .cons _ (.cons _ (.cons _ (.cons _ (.refl _)))) | exact .cons_cons _ (List.nil_sublist _))⟩, (by omega), ⟨i + 1, rfl, rfl, (by omega), (fun j hj y hy => by rcases Nat.lt_succ_iff_lt_or_eq.1 hj with h | h; exact hno j h y hy; subst h; rw [hx] at hy; cases hy; exact h0)⟩⟩
   ·
    have hge : ks.length ≤ i := by have := of_decide_eq_false hc2; simp at this; omega
    have hfe := findL_end (k := k) (l := ks) (fun j hj => hno j (by omega))
    refine awp_exit ?_
    refine x_thenE ?_
    refine x_thenE ?_
    refine x_blockE ?_
    refine x_then ?_
    refine awp_seq ?_
    refine awp_region ?_
    refine r_move rfl rfl ?_
    refine r_nilCheck rfl (by first | exact .pt _ _ | exact .v _ | exact .cp _) rfl ?_
    refine r_fieldpt rfl TF.f82_0 TF.sz78 rfl ?_
    refine r_load1 rfl TF.agg78 rfl ?_
    refine r_lenS rfl rfl TF.sl78 rfl ?_
    refine r_store 1 rfl rfl rfl TF.sz3 rfl rfl rfl ?_
    refine r_store 0 rfl rfl rfl TF.sz4 rfl rfl rfl ?_
    refine awl_nil ?_
    refine x_then ?_
    refine awp_ret ?_
    refine x_thenR ?_
    exact ⟨(.inl rfl), _, [], ⟨_, _, (by first | exact .one 0 rfl rfl TF.agg3 | exact .one 1 rfl rfl TF.agg3 | exact .one 2 rfl rfl TF.agg3 | exact .one 3 rfl rfl TF.agg3 | exact .one 4 rfl rfl TF.agg3 | exact .one 5 rfl rfl TF.agg3), (by first | exact .one 0 rfl rfl TF.agg4 | exact .one 1 rfl rfl TF.agg4 | exact .one 2 rfl rfl TF.agg4 | exact .one 3 rfl rfl TF.agg4 | exact .one 4 rfl rfl TF.agg4 | exact .one 5 rfl rfl TF.agg4), rfl⟩, ⟨rfl, by rw [findN, if_pos rfl, hfe]; simp; rfl⟩, (List.nil_sublist _), (by simp)⟩
  ·
   have he : kd.isEmpty = false := hc1
   rw [he]
   refine awp_skip ?_
   refine x_then ?_
   refine awp_seq ?_
   refine awp_seq ?_
   refine awp_region ?_
   refine r_move rfl rfl ?_
   refine r_nilCheck rfl (by first | exact .pt _ _ | exact .v _ | exact .cp _) rfl ?_
   refine r_fieldpt rfl TF.f82_0 TF.sz78 rfl ?_
   refine r_load1 rfl TF.agg78 rfl ?_
   refine r_call0 hq rfl rfl (.cons (.ev rfl rfl) .nil) (back_ok ks) rfl TF.en56 rfl (fun r hr => ?_)
   obtain rfl := hr
   refine awl_nil ?_
   refine x_then ?_
   refine awp_block ?_
   refine awp_rangeFuncS (fun pre wo => wo = [⟨b5, true, .box [.v (.bool (false))]⟩, ⟨b4, true, .box [.v (.int .i64 (0))]⟩] ∧ pre.length ≤ ks.length ∧ findR k ks ks.length = findR k ks (ks.length - pre.length)) (fun c pre wo => c = .ret ∧ ∃ (i : Nat) (z : Int) (bb : Bool), z = (i : Int) ∧ wo = [⟨b5, true, .box [.v (.bool (bb))]⟩, ⟨b4, true, .box [.v (.int .i64 (z))]⟩] ∧ findR k ks ks.length = (i, bb)) [(3, .a (.cp k.cs)), (4, .a (.v (.pointer (some ⟨b4, 0, none⟩)))), (5, .a (.v (.pointer (some ⟨b5, 0, none⟩))))] [true, true] hq rfl (back1_ok ks hl) TF.en86 (fun pre x ⟨s, _, h⟩ => by subst h; rfl) rfl rfl rfl (by first | exact List.Sublist.refl _ | exact .cons_cons _ (.cons _ (.refl _)) | exact List.nil_sublist _ | exact .cons _ (.refl _) | exact .cons _ (.cons _ (.refl _)) | exact .cons _ (.cons _ (.cons _ (.refl _))) | exact .cons _ (.cons _ (.cons _ (.cons _ (.refl _)))) | exact .cons_cons _ (List.nil_sublist _)) (Slots.cons rfl (by first | exact .refl _ | exact .nilOwn _ _ | exact .nilSl _ | exact .ownSl _ _ _  | exact SV.le.of_eq (by simp)) (Slots.cons rfl (by first | exact .refl _ | exact .nilOwn _ _ | exact .nilSl _ | exact .ownSl _ _ _  | exact SV.le.of_eq (by simp)) (Slots.cons rfl (by first | exact .refl _ | exact .nilOwn _ _ | exact .nilSl _ | exact .ownSl _ _ _  | exact SV.le.of_eq (by simp)) Slots.nil))) rfl rfl ⟨rfl, Nat.zero_le _, by simp⟩ ?_ ?_ ?_
   ·
    intro lr pre x wo rec busy w0 C0 hq hj hax
    obtain ⟨rfl, hpl, hpf⟩ := hj
    obtain ⟨x, hxr, rfl⟩ := hax
    obtain ⟨hkl, hx⟩ := rev_getS hxr
    refine awpi_seq ?_
    refine awpi_region ?_
    refine awli_op (fun c h => (by cases h)) ?_
    refine r_assign rfl rfl ?_
    refine awl_nil ⟨rfl, ?_⟩
    refine awli_nil ?_
    refine x_then ?_
    refine awpi_region ?_
    refine awli_op (fun c h => (by cases h)) ?_
    refine r_alloc TF.zero47 rfl (fun b10 => ?_)
    refine awl_nil ⟨rfl, ?_⟩
    refine awli_op (fun c h => (by cases h)) ?_
    refine r_store 0 rfl rfl rfl TF.sz47 rfl rfl rfl ?_
    refine awl_nil ⟨rfl, ?_⟩
    refine awli_nil ?_
    refine ⟨rfl, 3, rfl, ?_⟩
    refine awpi_block ?_
    refine awpi_seq ?_
    refine awpi_region ?_
    refine awli_op (fun c h => (by cases h)) ?_
    refine r_loadAb 0 rfl rfl TF.agg47 TF.sz47 rfl rfl ?_
    refine awl_nil ⟨rfl, ?_⟩
    refine awli_op (fun c h => (by cases h)) ?_
    refine r_loadA rfl TF.agg47 TF.sz47 rfl rfl ?_
    refine awl_nil ⟨rfl, ?_⟩
    refine awli_op (fun c h => (by cases h)) ?_
    refine r_call0 hq rfl rfl (.cons (.ev rfl rfl) (.cons (.ev rfl rfl) .nil)) (order_ok x k) rfl TF.en55 rfl (fun r hr => ?_)
    obtain rfl := hr
    refine awl_nil ⟨rfl, ?_⟩
    refine awli_op (fun c h => (by cases h)) ?_
    refine r_assign rfl rfl ?_
    refine awl_nil ⟨rfl, ?_⟩
    refine awli_nil ?_
    refine x_then ?_
    refine awpi_seq ?_
    refine awpi_region ?_
    refine awli_op (fun c h => (by cases h)) ?_
    refine r_move rfl rfl ?_
    refine awl_nil ⟨rfl, ?_⟩
    refine awli_op (fun c h => (by cases h)) ?_
    refine r_cmp rfl rfl rfl rfl ?_
    refine awl_nil ⟨rfl, ?_⟩
    refine awli_nil ?_
    refine x_then ?_
    refine awpi_cond rfl (fun hc4 => ?_) (fun hc4 => ?_)
    ·
     have h0 : x.ord k ≤ 0 := of_decide_eq_true hc4
     refine awpi_seq ?_
     refine awpi_region ?_
     refine awli_op (fun c h => (by cases h)) ?_
     refine r_move rfl rfl ?_
     refine awl_nil ⟨rfl, ?_⟩
     refine awli_op (fun c h => (by cases h)) ?_
     refine r_move rfl rfl ?_
     refine awl_nil ⟨rfl, ?_⟩
     refine awli_op (fun c h => (by cases h)) ?_
     refine r_cmp rfl rfl rfl rfl ?_
     refine awl_nil ⟨rfl, ?_⟩
     refine awli_op (fun c h => (by cases h)) ?_
     refine r_store 2 rfl rfl rfl TF.sz3 rfl rfl rfl ?_
     refine awl_nil ⟨rfl, ?_⟩
     refine awli_op (fun c h => (by cases h)) ?_
     refine r_store 1 rfl rfl rfl TF.sz4 rfl rfl rfl ?_
     refine awl_nil ⟨rfl, ?_⟩
     refine awli_nil ?_
     refine x_then ?_
     refine awpi_ret ?_
     refine x_blockR ?_
     refine ⟨[⟨b5, true, .box [.v (.bool (x.ord k == 0))]⟩, ⟨b4, true, .box [.v (.int .i64 ((ks.length : Int) - 1 - (pre.length : Int)))]⟩], .inr ⟨_, .ret, rfl, ks.length - 1 - pre.length, _, _, by omega, rfl, ?_⟩, ?_, by simp⟩
     · rw [hpf, show ks.length - pre.length = ks.length - 1 - pre.length + 1 by omega, findR_hit hx h0]; first | rfl | simp
     · first | exact List.Sublist.refl _ | exact .cons_cons _ (.cons _ (.refl _)) | exact List.nil_sublist _ | exact .cons _ (.refl _) | exact .cons _ (.cons _ (.refl _)) | exact .cons _ (.cons _ (.cons _ (.refl _))) | exact .cons _ (.cons _ (.cons _ (.cons _ (.refl _)))) | exact .cons_cons _ (List.nil_sublist _)
    ·
     have h0 : ¬ x.ord k ≤ 0 := of_decide_eq_false hc4
     refine awpi_skip ?_
     refine x_block ?_
     refine ⟨_, .inl ⟨rfl, rfl, by simp; omega, ?_⟩, ?_, by simp⟩
     · rw [hpf, show ks.length - pre.length = ks.length - 1 - pre.length + 1 by omega, findR_step hx h0]; simp; congr 1; omega
     · first | exact List.Sublist.refl _ | exact .cons_cons _ (.cons _ (.refl _)) | exact List.nil_sublist _ | exact .cons _ (.refl _) | exact .cons _ (.cons _ (.refl _)) | exact .cons _ (.cons _ (.cons _ (.refl _))) | exact .cons _ (.cons _ (.cons _ (.cons _ (.refl _)))) | exact .cons_cons _ (List.nil_sublist _)
   ·
    intro xs wo' hG hJ
    obtain ⟨rfl, hpl, hpf⟩ := hJ
    rw [hG, Nat.sub_self] at hpf
    refine x_block ?_
    refine x_then ?_
    refine awp_seq ?_
    refine awp_region ?_
    refine r_store 1 rfl rfl rfl TF.sz3 rfl rfl rfl ?_
    refine r_store 0 rfl rfl rfl TF.sz4 rfl rfl rfl ?_
    refine awl_nil ?_
    refine x_then ?_
    refine awp_ret ?_
    exact ⟨(.inl rfl), _, [], ⟨_, _, (by first | exact .one 0 rfl rfl TF.agg3 | exact .one 1 rfl rfl TF.agg3 | exact .one 2 rfl rfl TF.agg3 | exact .one 3 rfl rfl TF.agg3 | exact .one 4 rfl rfl TF.agg3 | exact .one 5 rfl rfl TF.agg3), (by first | exact .one 0 rfl rfl TF.agg4 | exact .one 1 rfl rfl TF.agg4 | exact .one 2 rfl rfl TF.agg4 | exact .one 3 rfl rfl TF.agg4 | exact .one 4 rfl rfl TF.agg4 | exact .one 5 rfl rfl TF.agg4), rfl⟩, ⟨rfl, by rw [findN, if_neg (by simp), hpf]; rfl⟩, (List.nil_sublist _), (by simp)⟩
   ·
    intro c xs wo' hX
    obtain ⟨rfl, i, z, bb, rfl, rfl, hfr⟩ := hX
    refine awp_ret ?_
    refine x_blockR ?_
    refine x_thenR ?_
    exact ⟨(.inl rfl), _, [], ⟨_, _, (by first | exact .one 0 rfl rfl TF.agg3 | exact .one 1 rfl rfl TF.agg3 | exact .one 2 rfl rfl TF.agg3 | exact .one 3 rfl rfl TF.agg3 | exact .one 4 rfl rfl TF.agg3 | exact .one 5 rfl rfl TF.agg3), (by first | exact .one 0 rfl rfl TF.agg4 | exact .one 1 rfl rfl TF.agg4 | exact .one 2 rfl rfl TF.agg4 | exact .one 3 rfl rfl TF.agg4 | exact .one 4 rfl rfl TF.agg4 | exact .one 5 rfl rfl TF.agg4), rfl⟩, ⟨rfl, by rw [findN, if_neg (by simp), hfr]; rfl⟩, (List.nil_sublist _), (by simp)⟩
end Go.Proofs.Ytljgdbgcleibjaa.A
namespace Go.Proofs.Ytljgdbgcleibjaa.A
open Go Go.RowKit
set_option linter.unusedVariables false
set_option linter.unusedSimpArgs false
set_option linter.unusedSectionVars false
variable {P : Program} {w0 : Base} {C0 C : CS} {T : TS} {S S' : AState} {a : Act} {w : World} {ops : Array Oper} {rest : List Oper} {o : Oper} {Q : Exit → AState → Prop}
variable {t : Nat} {ty ty' : TypeId} {pos : String} {aft : Array Edge}
theorem r_capV {x : Operand} {A : Option Addr} {n cap : Nat} {st e : TypeId} (hx : S.ev x = some (.a (.v (.slice A n cap)))) (hst : sliceT P st = some e) (ht : Nat.blt t S.nt = true)
    (hr : AWL P w0 C0 ops rest Q (S.put t (.a (.v (.int .i64 cap))))) : AWL P w0 C0 ops (⟨some t, .call ⟨.builtin .cap, #[x], #[st]⟩, ty, pos, aft, none⟩ :: rest) Q S :=
  awl_pure ht (fun C T a w hs => ⟨.int .i64 cap, by simp [execOp, resolve, invoke, builtin, Builtin.cap_, hs.evv hx, run_underlying (sliceT_un hst), Sem.run_bind, Result.andThen, goInt], srel_v _⟩) hr
theorem run_copyV {st e sz : Nat} (hst : sliceT P st = some e) (hsz : szT P e = some sz) {g off m c : Nat} {arr : Array Value} {t0 : TypeId} (hg : w.heap[g]? = some (.cells arr t0 (0, 0))) {A : Addr} {sA : Option Addr} {sn sc : Nat} {vs : List Value}
    (hA : 0 < min sn m → A = ⟨g, off, none⟩) (hl : vs.length = min sn m * sz) (hs : ∀ j v, vs[j]? = some v → ∃ b o, sA = some ⟨b, o, none⟩ ∧ w.cell? ⟨b, o + j, none⟩ = some v) (h1 : ∀ v ∈ vs, v.oneCell' = true) (hfit : off + min sn m * sz ≤ arr.size) (hz : 0 < sz) :
    (Builtin.copy_ #[st, st] ty #[.slice (some A) m c, .slice sA sn sc]).run P w = .ok (.int .i64 (min sn m : Nat)) (if 0 < min sn m then w.setRow g (arr.toList.take off ++ vs ++ arr.toList.drop (off + vs.length)).toArray else w) := by
  have hlen : (Builtin.lenOf (.slice sA sn sc)).run P w = .ok sn w := by simp [Builtin.lenOf]
  by_cases hm : min sn m = 0
  · have hv : vs = [] := List.eq_nil_of_length_eq_zero (by rw [hl, hm]; simp)
    have hm' : Nat.min sn m = 0 := hm
    have hf : (Builtin.firstCells sz 0 (.slice sA sn sc)).run P w = .ok #[] w := by
      cases sA <;> simp [Builtin.firstCells, loadCells, loadCellsFrom]
    rw [if_neg (by omega)]
    simp [Builtin.copy_, run_underlying (sliceT_un hst), Sem.run_bind, Result.andThen, run_sz hsz, hlen, hm', hf, storeCells, goInt, hm]
  · obtain rfl := hA (by omega)
    have hpos : 0 < vs.length := by rw [hl]; exact Nat.mul_pos (by omega) hz
    obtain ⟨b, o, rfl, _⟩ := hs 0 vs[0] (List.getElem?_eq_getElem hpos)
    have hf : (Builtin.firstCells sz (Nat.min sn m) (.slice (some ⟨b, o, none⟩) sn sc)).run P w = .ok vs.toArray w := by
      have := run_load_cells (P := P) (w := w) (b := b) (o := o) (n := Nat.min sn m * sz) (cs := vs) hl (fun j v hj => by obtain ⟨b', o', h1, h2⟩ := hs j v hj; cases h1; exact h2)
      simpa [Builtin.firstCells] using this
    have hst' := run_storeCells_at P g off t0 vs 0 arr w hg (by rw [hl]; simpa using hfit) h1
    rw [if_pos (by omega)]
    simp only [Nat.add_zero] at hst'
    simp [Builtin.copy_, run_underlying (sliceT_un hst), Sem.run_bind, Result.andThen, run_sz hsz, hlen, hf, hst', goInt]
def SrcOk (w0 : Base) (C0 : CS) (S : AState) (y : Operand) (k sn : Nat) (xs : List AV) : Prop := ∀ C T a w, SimC w0 C0 C T S a w → ∃ sA sc vs, a.eval y = .slice sA sn sc ∧ Rels C xs vs ∧ (∀ v ∈ vs, v.oneCell' = true) ∧ ∀ (j : Nat) (v : Value), vs[j]? = some v → ∃ b o, sA = some ⟨b, o, none⟩ ∧ w.cell? ⟨b, o + j, none⟩ = some v
theorem r_copyV (i : Nat) {x y : Operand} {A : Addr} {m c sn g off sz : Nat} {cs xs : List AV} {st e : TypeId} (hx : S.ev x = some (.a (.v (.slice (some A) m c)))) (hy : SrcOk w0 C0 S y (min sn m) sn xs) (hA : 0 < min sn m → A = ⟨g, off, none⟩) (hi : S.objs[i]? = some ⟨g, true, .box cs⟩)
    (hst : sliceT P st = some e) (hsz : szT P e = some sz) (hz : 0 < sz) (hl : xs.length = min sn m * sz) (hfit : off + min sn m * sz ≤ cs.length) (ht : Nat.blt t S.nt = true)
    (hr : AWL P w0 C0 ops rest Q (AState.put ⟨S.nt, S.slots, S.objs.set i ⟨g, true, .box (if 0 < min sn m then cs.take off ++ xs ++ cs.drop (off + xs.length) else cs)⟩⟩ t (.a (.v (.int .i64 (min sn m : Nat)))))) :
    AWL P w0 C0 ops (⟨some t, .call ⟨.builtin .copy, #[x, y], #[st, st]⟩, ty, pos, aft, none⟩ :: rest) Q S := by
  rintro a w ⟨C, T, hs⟩
  obtain ⟨arr, t0, g1, g2⟩ := (hs.objs _ (mem_of_get hi)).1
  have harr := box_get g2
  obtain ⟨sA, sc, vs, h1, h2, h3, h4⟩ := hy C T a w hs
  have hvl : vs.length = xs.length := h2.1
  have hrun := run_copyV (P := P) (w := w) (ty := ty) hst hsz (m := m) (c := c) (sc := sc) g1 hA (by rw [hvl, hl]) h4 h3 (by rw [harr]; exact hfit) hz
  refine wpList_plain rfl (fun K hK => ?_)
  unfold Oper.wp
  have hexec : (execOp a.eval ⟨some t, .call ⟨.builtin .copy, #[x, y], #[st, st]⟩, ty, pos, aft, none⟩).run P w = .ok (.value (.int .i64 (min sn m : Nat))) (if 0 < min sn m then w.setRow g (arr.toList.take off ++ vs ++ arr.toList.drop (off + vs.length)).toArray else w) := by
    simp [execOp, resolve, invoke, builtin, hs.evv hx, h1, hrun]
  rw [hexec]
  refine hK _ _ (hr _ _ ⟨C, T, SimC.put ?_ ht (srel_v _)⟩)
  by_cases hm : 0 < min sn m
  · rw [if_pos hm, if_pos hm]
    have r1 := rels_take_drop g2 0 off
    have r2 := rels_take_drop g2 (off + vs.length) cs.length
    simp only [List.drop_zero] at r1
    rw [List.take_of_length_le (by simp), List.take_of_length_le (by simp; omega)] at r2
    exact hs.setObj hi (w' := w.setRow g (arr.toList.take off ++ vs ++ arr.toList.drop (off + vs.length)).toArray) (Nat.le_refl _) rfl rfl rfl (by simp) (fun k hk => setRow_other w g k _ hk) ⟨_, t0, setRow_heap w g arr _ t0 _ g1, by rw [← hvl]; simpa using (r1.append h2).append r2⟩
  · rw [if_neg hm, if_neg hm]
    exact hs.setObj hi (w' := w) (Nat.le_refl _) rfl rfl rfl rfl (fun _ _ => rfl) ⟨arr, t0, g1, g2⟩
theorem srcOk_box (j : Nat) {y : Operand} {A : Addr} {k n sn sc g off : Nat} {rw' : Bool} {cs : List AV} (hy : S.ev y = some (.a (.v (.slice (some A) sn sc)))) (hA : 0 < n → A = ⟨g, off, none⟩) (hj : S.objs[j]? = some ⟨g, rw', .box cs⟩) (hn : n = 0 → ((cs.drop off).take n) = []) (h1 : ((cs.drop off).take n).all AV.one = true) (hfit : off + n ≤ cs.length) :
    SrcOk w0 C0 S y k sn ((cs.drop off).take n) := by
  intro C T a w hs
  obtain ⟨arr, t0, g1, g2⟩ := (hs.objs _ (mem_of_get hj)).1
  have hr := rels_take_drop g2 off n
  refine ⟨some A, sc, (arr.toList.drop off).take n, hs.evv hy, hr, hr.ones h1, fun i v hv => ?_⟩
  rw [List.getElem?_take] at hv
  split at hv
  · rename_i hi
    obtain rfl := hA (by omega)
    rw [List.getElem?_drop] at hv
    exact ⟨g, off, rfl, by rw [cell_of_row w g (off + i) arr t0 (0, 0) g1]; simpa using hv⟩
  · cases hv
theorem srcOk_sl {y : Operand} {sv : SV} {k sz : Nat} {l : List (List AV)} (hy : S.ev y = some sv) (hl : sv.av = .sl sz l) : SrcOk w0 C0 S y k l.length ((l.take k).flatten) := by
  intro C T a w hs
  have h := (hs.ev hy).av
  rw [hl] at h
  obtain ⟨A, cap, b, o, hv, hcap, hA, hR⟩ := rel_sl_inv h
  have hR' := Row.take hR k
  obtain ⟨vs, v1, v2, v3⟩ := hR'.vals
  refine ⟨A, cap, vs, hv, v1, fun v hv => ?_, fun j v hj => ?_⟩
  · obtain ⟨j, hj⟩ := List.getElem?_of_mem hv
    exact hs.one _ _ _ (v3 j v hj)
  · have hne : l ≠ [] := fun e => by subst e; simp at v1; have := v1.nil_inv; subst this; simp at hj
    exact ⟨b, o, hA hne, (hs.com _ _ _ (v3 j v hj)).cell⟩
theorem r_appendZ {x y : Operand} {k0 i c sz bytes : Nat} {q : IntKind} {k : Nat} {xs : List AV} {st e tn : TypeId} {zs : List Value} (hx : SrcOk w0 C0 S x k0 i xs) (hc : ∀ C T a w, SimC w0 C0 C T S a w → ∃ A, a.eval x = .slice A i c) (hl : xs.length = i * sz) (hy : S.ev y = some (.a (.v (.int q k)))) (hst : sliceT P st = some e) (hsz : szT P e = some sz) (hby : bytesT P e = some bytes) (hz : zeroT P e = some zs) (hzl : zs.length = sz) (hs0 : 0 < sz) (htn : P.underlying tn = some (.int q))
    (hk : 0 < k) (hroom : c < i + k) (hb : (i + k) * 2 * bytes ≤ 281474976710656) (hbig : i + k ≤ 1000000000) (ht : Nat.blt t S.nt = true)
    (hr : ∀ b cap (ext : List AV), i + k ≤ cap → (i * sz + ext.length) = cap * sz → AWL P w0 C0 ops rest Q (AState.put ⟨S.nt, S.slots, ⟨b, true, .box (xs ++ ext)⟩ :: S.objs⟩ t (.a (.v (.slice (some ⟨b, 0, none⟩) (i + k) cap))))) :
    AWL P w0 C0 ops (⟨some t, .call ⟨.builtin .append, #[x, y], #[st, tn]⟩, ty, pos, aft, none⟩ :: rest) Q S := by
  rintro a w ⟨C, T, hs⟩
  obtain ⟨sA, sc, vs, h1, h2, h3, h4⟩ := hx C T a w hs
  obtain ⟨A', hA'⟩ := hc C T a w hs
  rw [h1] at hA'; cases hA'
  obtain ⟨inf, hi, hi1, hi2, z, hiz, hzl'⟩ : ∃ inf, P.info? e = some inf ∧ inf.size = sz ∧ inf.bytes = bytes ∧ ∃ z, inf.zero = some z ∧ z.cells.size = sz := by
    unfold szT at hsz; unfold bytesT at hby; unfold zeroT at hz
    cases hi : P.info? e with
    | none => simp [hi] at hsz
    | some inf =>
      cases hiz : inf.zero with
      | none => simp [hi, hiz] at hz
      | some z => simp [hi] at hsz hby; simp [hi, hiz] at hz; exact ⟨inf, rfl, hsz, hby, z, hiz, by subst hz; simpa using hzl⟩
  have hold : (Builtin.firstCells inf.size i (.slice sA i c)).run P w.drew = .ok vs.toArray w.drew := by
    rw [hi1]
    cases hvs : vs with
    | nil =>
      have : i * sz = 0 := by rw [← hl, ← h2.1, hvs]; rfl
      have hi0 : i = 0 := by rcases Nat.mul_eq_zero.1 this with h | h; exact h; omega
      subst hi0
      cases sA <;> simp [Builtin.firstCells, loadCells, loadCellsFrom]
    | cons v0 vr =>
      obtain ⟨b, o, rfl, _⟩ := h4 0 v0 (by rw [hvs]; rfl)
      have := run_load_cells (P := P) (w := w.drew) (b := b) (o := o) (n := i * sz) (cs := vs) (by rw [h2.1, hl]) (fun j v hj => by obtain ⟨b', o', g1, g2⟩ := h4 j v hj; cases g1; exact g2)
      rw [← hvs]
      simpa [Builtin.firstCells] using this
  have hfit : Builtin.nextslicecap (i + k) c * inf.bytes ≤ 281474976710656 := by
    rw [hi2]
    exact Nat.le_trans (Nat.mul_le_mul_right _ (by have := nextslicecap_le hroom; omega)) hb
  have hkb : k * inf.bytes ≤ 281474976710656 := by
    rw [hi2]; exact Nat.le_trans (Nat.mul_le_mul_right _ (by omega)) hb
  have hrun := Lib.run_append_grow_zeros (P := P) w st tn ty e inf z q q (sliceT_un hst) htn hi hiz sA i c vs hold k hk (by rw [hi1]; exact hs0) hroom (by omega) hkb hfit
  have hcap : i + k ≤ grownCap w (i + k) c e := grownCap_ge _ _ _ _
  refine wpList_plain rfl (fun K hK => ?_)
  unfold Oper.wp
  have hexec : (execOp a.eval ⟨some t, .call ⟨.builtin .append, #[x, y], #[st, tn]⟩, ty, pos, aft, none⟩).run P w = .ok (.value (.slice (some ⟨w.heap.size, 0, none⟩) (i + k) (grownCap w (i + k) c e)))
      (w.drew.alloc (.cells (vs.toArray ++ Builtin.zeroCells z.cells k ++ Builtin.zeroCells z.cells (grownCap w (i + k) c e - (i + k))) e)) := by
    simp [execOp, resolve, invoke, builtin, h1, hs.evv hy, hrun]
  rw [hexec]
  have hsz2 : ∀ n, (Builtin.zeroCells z.cells n).size = n * sz := fun n => by rw [size_zeroCells, hzl']
  refine hK _ _ (hr w.heap.size (grownCap w (i + k) c e) ((Builtin.zeroCells z.cells k ++ Builtin.zeroCells z.cells (grownCap w (i + k) c e - (i + k))).toList.map AV.v) hcap ?_ _ _ ⟨C, T, ?_⟩)
  · rw [List.length_map, Array.length_toList, Array.size_append, hsz2, hsz2, ← Nat.add_mul, ← Nat.add_mul]; congr 1; omega
  · have hs' := hs.drew.newObj (.cells (vs.toArray ++ Builtin.zeroCells z.cells k ++ Builtin.zeroCells z.cells (grownCap w (i + k) c e - (i + k))) e)
      (o := .box (xs ++ (Builtin.zeroCells z.cells k ++ Builtin.zeroCells z.cells (grownCap w (i + k) c e - (i + k))).toList.map AV.v)) ⟨_, e, heap_alloc_at _ _, by rw [show ∀ a b : Array Value, (vs.toArray ++ a ++ b).toList = vs ++ (a ++ b).toList from fun a b => by simp]; exact h2.append (rels_vals _)⟩
    exact hs'.put ht (srel_v _)
theorem run_overlapsB (w : World) (tS tR e size : TypeId) (hst : sliceT P tS = some e) (hz : szT P e = some size) (a b : Addr) (la ca lb cb : Nat) (hne : a.block ≠ b.block) (tA : TypeId) (kA : Nat) (hsa : w.shape? a.block = some (tA, kA)) (hkA : kA ≠ 0) (hb : Plain w b.block) :
    (Extern.SlicesOverlaps.overlaps #[tS, tS] #[tR] #[.slice (some a) la ca, .slice (some b) lb cb]).run P w = .ok (.bool false) w := by
  obtain ⟨arr, tb, hbb⟩ := hb
  have hnb : (a.block != b.block) = true := by simpa using hne
  have hnb' : (a.block == b.block) = false := by simpa using hne
  have hsb : w.shape? b.block = some (tb, arr.size) := by simp [World.shape?, hbb]
  have hfb : ∀ o s, w.frozen? ⟨b.block, o, s⟩ = false := fun o s => by simp [World.frozen?, hbb]
  have hfb' : w.frozen? b = false := by have := hfb b.off b.spot; simpa using this
  change Sem.run P (α := Value) (do
    let some t := (#[tS, tS] : Array TypeId)[0]? | stuck "slices.overlaps: no parameter types"
    let .slice elem ← underlying t | stuck "slices.overlaps: slice type expected"
    let size ← sizeOf elem
    match (some a : Option Addr), (some b : Option Addr) with
    | some a, some b =>
      if la = 0 ∨ lb = 0 ∨ size = 0 then pure (Value.bool false)
      else if a.block != b.block && (← frozen a) && (← frozen b) then unsupported .addressObserved
      else do
        if a.block != b.block then do
          noView a; noView b
          if ← mayBeOne a b then return Value.bool ((← choose (.extern "sameAddr.stringBytes" 2)) == 1)
        pure (Value.bool (a.block == b.block && a.off < b.off + lb * size && b.off < a.off + la * size))
    | _, _ => pure (Value.bool false)) w = _
  by_cases h0 : la = 0 ∨ lb = 0 ∨ size = 0
  · simp [run_underlying (sliceT_un hst), run_sz hz, h0]
  · cases kA with
    | zero => exact absurd rfl hkA
    | succ kA =>
      cases hfa : w.frozen? a <;> cases hfa' : w.frozen? ⟨a.block, kA + 1, none⟩ <;>
      simp [run_underlying (sliceT_un hst), run_sz hz, h0, hnb, hnb', frozen, noView, viewAt, mayBeOne, stringish, shape, Sem.run, hsa, hsb, hfb, hfb', hfa, hfa']
def overlapsT (P : Program) (f tS tR : Nat) : Prop := ∀ (args : Array Value) (w : World), (callFunc f args).run P w = ((Extern.SlicesOverlaps.overlaps #[tS, tS] #[tR] args).run P w).andThen fun v w' => .ok (.value v) w'
theorem r_overlaps (i : Nat) {x y : Operand} {f tS tR e size g off lb cb : Nat} {sv : SV} {sz : Nat} {l : List (List AV)} {cs : List AV} {tys : Array TypeId} (hf : overlapsT P f tS tR) (hst : sliceT P tS = some e) (hz : szT P e = some size) (hx : S.ev x = some sv) (hl : sv.av = .sl sz l) (hl0 : l ≠ []) (hsz0 : 0 < sz)
    (hy : S.ev y = some (.a (.v (.slice (some ⟨g, off, none⟩) lb cb)))) (hi : S.objs[i]? = some ⟨g, true, .box cs⟩) (ht : Nat.blt t S.nt = true)
    (hr : AWL P w0 C0 ops rest Q (S.put t (.a (.v (.bool false))))) : AWL P w0 C0 ops (⟨some t, .call ⟨.value (.func f), #[x, y], tys⟩, ty, pos, aft, none⟩ :: rest) Q S :=
  awl_pure ht (fun C T a w hs => by
    have h := (hs.ev hx).av
    rw [hl] at h
    obtain ⟨A, cap, b, o, hv, hcap, hA, hR⟩ := rel_sl_inv h
    obtain rfl := hA hl0
    obtain ⟨cs0, hcs0⟩ := get_lt (l := l) (i := 0) (List.length_pos_iff.2 hl0)
    have hc0 := hR.1 cs0 (List.mem_of_getElem? hcs0)
    obtain ⟨c0, hcc⟩ := get_lt (l := cs0) (i := 0) (by omega)
    obtain ⟨u, hu, _⟩ := hR.2 0 cs0 0 c0 hcs0 hcc
    have hcell := (hs.com _ _ _ hu).cell
    obtain ⟨tA, kA, hsa, hkA⟩ : ∃ tA kA, w.shape? b = some (tA, kA) ∧ kA ≠ 0 := by
      cases hb : w.heap[b]? with
      | none => simp [World.cell?, hb] at hcell
      | some ob =>
        cases ob with
        | cells arr tA fz =>
          refine ⟨tA, arr.size, by simp [World.shape?, hb], fun h0 => ?_⟩
          have : arr = #[] := Array.eq_empty_of_size_eq_zero h0
          subst this
          simp [World.cell?, hb] at hcell
        | _ => simp [World.cell?, hb] at hcell
    obtain ⟨⟨arr, t0, g1, g2⟩, hnone, _⟩ := hs.objs _ (mem_of_get hi)
    have hne : b ≠ g := fun e => by subst e; have := hnone (o + 0 * sz + 0); simp only at this; rw [hu] at this; cases this
    have hrun := run_overlapsB (P := P) w tS tR e size hst hz ⟨b, o, none⟩ ⟨g, off, none⟩ l.length cap lb cb hne tA kA hsa hkA ⟨arr, t0, g1⟩
    refine ⟨.bool false, ?_, srel_v _⟩
    have hcall := hf #[a.eval x, a.eval y] w
    rw [hv, hs.evv hy, hrun] at hcall
    simp [execOp, resolve, invoke, hv, hs.evv hy, show a.eval (.func f) = .func (.func f) #[] #[] from rfl, Deferred.ofValue, hcall, Result.andThen]) hr
end Go.Proofs.Ytljgdbgcleibjaa.A

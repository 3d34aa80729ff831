import Derived.WalkKit
import Derived.Below
import Derived.Laws.Rows
import Derived.Laws.CopyRow
import Derived.Laws.AppendOwn
import Derived.RangeFuncLeaves
import Derived.RangeFuncSeq
import Derived.RangeFuncCalls
import Derived.MapKept
import Derived.Orders
import Derived.Laws.IdiomStrings
import Derived.Laws.BytesArg
import Derived.Shelf.SlIter.Nil
import Derived.RangeFuncBound
import Derived.Maps.RangeRun
import Derived.DeepKeys3
import Derived.Laws.StructEq
import Derived.Shelf.SlSortCmp.NoneTotal
import Derived.ChangeKeysEq
import Derived.Laws.MakeOwn
import Derived.ChangeArms
import Derived.ChangeOld
import Derived.Laws.DeepStrings4
import Derived.OpenShut
import Derived.Test.YtljgdbgcleibjaaProg
import Derived.KernelRfl
import Derived.OrdersIn
import Derived.Lib.AppendZeros
import Derived.Lib.AppendZerosOnto
import Derived.Lib.Overlaps
import Derived.Deep.AppendSrc
import Derived.Shelf.SlGeneric
import Derived.Ground.SlsfProg
import Derived.Test.YtljgdbgcleibjaaM7
namespace Go.Proofs.Ytljgdbgcleibjaa.A
open Go Go.RowKit
set_option linter.unusedVariables false
set_option linter.unusedSimpArgs false
set_option linter.unusedSectionVars false
set_option linter.unnecessarySimpa false
variable {P : Program} {w0 : Base} {C0 C : CS} {T : TS} {S S' : AState} {a : Act} {w : World} {ops : Array Oper} {rest : List Oper} {o : Oper} {Q : Exit → AState → Prop}
variable {t : Nat} {ty ty' : TypeId} {pos : String} {aft : Array Edge}
section
variable {K α : Type} [DecidableEq K]
def mget : List (K × α) → K → Option α
  | [], _ => none
  | (x, v) :: r, k => if x = k then some v else mget r k
def mset : List (K × α) → K → α → List (K × α)
  | [], k, v => [(k, v)]
  | (x, u) :: r, k, v => if x = k then (k, v) :: r else (x, u) :: mset r k v
theorem mfind_get : ∀ (m : List (K × α)) (k : K), mget m k = (mfind (m.map (·.1)) k).bind fun i => (m[i]?).map (·.2)
  | [], k => rfl
  | (x, v) :: r, k => by
    unfold mget
    by_cases h : x = k
    · simp [mfind, h]
    · simp only [h, if_false, List.map_cons, mfind, mfind_get r k]
      cases mfind (r.map (·.1)) k <;> simp
theorem mfind_set_none : ∀ (m : List (K × α)) (k : K) (v : α), mfind (m.map (·.1)) k = none → mset m k v = m ++ [(k, v)]
  | [], k, v, _ => rfl
  | (x, u) :: r, k, v, h => by
    by_cases hx : x = k
    · simp [mfind, hx] at h
    · simp [mfind, hx] at h
      simp [mset, hx, mfind_set_none r k v (by simpa using h)]
theorem mfind_set_some : ∀ (m : List (K × α)) (k : K) (v : α) (i : Nat), mfind (m.map (·.1)) k = some i → i < m.length ∧ (m.map (·.1))[i]? = some k ∧ mset m k v = m.set i (k, v)
  | [], k, v, i, h => by simp [mfind] at h
  | (x, u) :: r, k, v, i, h => by
    by_cases hx : x = k
    · simp [mfind, hx] at h
      subst h; subst hx; simp [mset]
    · cases hr : mfind (r.map (·.1)) k with
      | none => simp [mfind, hx, hr] at h
      | some j =>
        simp [mfind, hx, hr] at h
        subst h
        obtain ⟨h1, h2, h3⟩ := mfind_set_some r k v j hr
        exact ⟨by simp; omega, by simpa using h2, by simp [mset, hx, h3]⟩
end
section
variable {K α : Type} [DecidableEq K] {ek : K → Value} {ev : α → AV} {kt et : TypeId}
def encM (ek : K → Value) (ev : α → AV) (m : List (K × α)) : List (Value × AV) := m.map fun p => (ek p.1, ev p.2)
theorem map_ents {b : Nat} {m : List (K × α)} (h : ObjRel C b (.map (encM ek ev m)) w) :
    ∃ ents clock, w.heap[b]? = some (.map ents clock) ∧ ents.toList.map (·.key) = (m.map (·.1)).map ek ∧ Rels C (m.map fun p => ev p.2) (ents.toList.map (·.val))
      ∧ (ents.toList.map (·.born)).Pairwise (· < ·) ∧ ∀ e ∈ ents.toList, e.born < clock := by
  obtain ⟨ents, clock, h1, h2, h3, h4⟩ := h
  exact ⟨ents, clock, h1, by rw [h2, encM]; simp, by have := h3; rw [encM, List.map_map] at this; exact this, h4⟩
theorem run_look (KE : KeyEnc P kt ek) {mt : TypeId} (hmt : mapT P mt = some (kt, et)) {b : Nat} {m : List (K × α)} (h : ObjRel C b (.map (encM ek ev m)) w) (k : K) (z : α) (hz : ZeroAV P et (ev z)) :
    ∃ u, Rel C (ev ((mget m k).getD z)) u ∧ (Instr.lookup mt (.map (some b)) (ek k) false).run P w = .ok u w ∧ (Instr.lookup mt (.map (some b)) (ek k) true).run P w = .ok (.tuple #[u, .bool (mget m k).isSome]) w := by
  obtain ⟨ents, clock, h1, h2, h3, _⟩ := map_ents h
  have hf := KE.find ents.toList (m.map (·.1)) k w h2
  have hc := fun e => KE.check e k w
  rw [mfind_get m k]
  cases hm : mfind (m.map (·.1)) k with
  | none =>
    obtain ⟨zv, hz1, hz2⟩ := hz.run w C
    refine ⟨zv, by simpa using hz2, ?_, ?_⟩ <;>
    simp [Instr.lookup, run_underlying (mapT_un hmt), run_getMap h1, hc, hf, hm, hz1]
  | some i =>
    obtain ⟨hi, hk, _⟩ := mfind_set_some m k z i hm
    have hil : i < ents.toList.length := by have := congrArg List.length h2; simp at this; simp; omega
    have hmi : m[i]? = some m[i] := List.getElem?_eq_getElem hi
    have hei : ents.toList[i]? = some ents.toList[i] := List.getElem?_eq_getElem hil
    have hei' : ents[i]? = some ents.toList[i] := by simpa using hei
    refine ⟨(ents.toList[i]).val, ?_, ?_, ?_⟩
    · simp only [hmi, Option.bind_some, Option.map_some, Option.getD_some]
      exact h3.2 i _ _ (by simp [hmi]) (by simp [hei])
    · simp [Instr.lookup, run_underlying (mapT_un hmt), run_getMap h1, hc, hf, hm, hei']
    · simp [Instr.lookup, run_underlying (mapT_un hmt), run_getMap h1, hc, hf, hm, hei', hmi]
theorem run_upd (KE : KeyEnc P kt ek) {mt : TypeId} (hmt : mapT P mt = some (kt, et)) {b : Nat} {m : List (K × α)} (h : ObjRel C b (.map (encM ek ev m)) w) (k : K) (x : α) {u : Value} (hu : Rel C (ev x) u) :
    ∃ ents' clock', (Instr.mapUpdate mt (.map (some b)) (ek k) u).run P w = .ok () { w with heap := w.heap.setIfInBounds b (.map ents' clock') } ∧
      ents'.toList.map (·.key) = (encM ek ev (mset m k x)).map (·.1) ∧ Rels C ((encM ek ev (mset m k x)).map (·.2)) (ents'.toList.map (·.val)) ∧ (ents'.toList.map (·.born)).Pairwise (· < ·) ∧ ∀ e ∈ ents'.toList, e.born < clock' := by
  obtain ⟨ents, clock, h1, h2, h3, h4, h5⟩ := map_ents h
  have hf := KE.find ents.toList (m.map (·.1)) k w h2
  have hc := fun e => KE.check e k w
  have e1 : (encM ek ev (mset m k x)).map (·.1) = ((mset m k x).map (·.1)).map ek := by simp [encM]
  have e2 : (encM ek ev (mset m k x)).map (·.2) = (mset m k x).map fun p => ev p.2 := by simp [encM]
  rw [e1, e2]
  cases hm : mfind (m.map (·.1)) k with
  | none =>
    refine ⟨ents.push { key := ek k, val := u, born := clock }, clock + 1, ?_, ?_, ?_, ?_, ?_⟩
    · simp [Instr.mapUpdate, run_underlying (mapT_un hmt), run_getMap h1, run_setMap h1, hc, hf, hm]
    · rw [mfind_set_none m k x hm]; simp [h2]
    · rw [mfind_set_none m k x hm]
      simpa using h3.append (Rels.cons hu Rels.nil)
    · simp only [Array.toList_push, List.map_append, List.map_cons, List.map_nil]
      refine List.pairwise_append.2 ⟨h4, by simp, fun p hp q hq => ?_⟩
      obtain ⟨e, he, rfl⟩ := List.mem_map.1 hp
      simp at hq; subst hq; exact h5 e he
    · intro e he
      simp only [Array.toList_push, List.mem_append, List.mem_singleton] at he
      rcases he with he | rfl
      · have := h5 e he; omega
      · simp
  | some i =>
    obtain ⟨hi, hk, hset⟩ := mfind_set_some m k x i hm
    have hil : i < ents.toList.length := by have := congrArg List.length h2; simp at this; simp; omega
    obtain ⟨e0, hei⟩ : ∃ e0, ents.toList[i]? = some e0 := ⟨_, List.getElem?_eq_getElem hil⟩
    have hei' : ents[i]? = some e0 := by simpa using hei
    have hil2 : i < ents.size := by simpa using hil
    have hkey : e0.key = ek k := by
      have := congrArg (fun l => l[i]?) h2
      simp only [List.getElem?_map, hei] at this
      have hk' := hk
      simp only [List.getElem?_map] at hk'
      rw [hk'] at this
      simpa using this
    refine ⟨ents.modify i (fun e => { e with key := ek k, val := u }), clock, ?_, ?_, ?_, ?_, ?_⟩
    · simp [Instr.mapUpdate, run_underlying (mapT_un hmt), run_getMap h1, run_setMap h1, hc, hf, hm, hei', hkey, KE.stay]
    · rw [hset, List.map_set, List.map_set, ← h2]
      apply List.ext_getElem?
      intro j
      simp only [Array.toList_modify, List.getElem?_map, List.getElem?_modify, List.getElem?_set, List.length_map]
      by_cases hij : i = j
      · subst hij; simp only [hei, hei']; simp [hil, hi, hil2]
      · simp [hij]
    · rw [hset, List.map_set]
      have : (ents.modify i (fun e => { e with key := ek k, val := u })).toList.map (·.val) = (ents.toList.map (·.val)).set i u := by
        apply List.ext_getElem?
        intro j
        simp only [Array.toList_modify, List.getElem?_map, List.getElem?_modify, List.getElem?_set, List.length_map]
        by_cases hij : i = j
        · subst hij; simp only [hei, hei']; simp [hil, hi, hil2]
        · simp [hij]
      rw [this]
      refine ⟨by simp [h3.1], fun j c v hj1 hj2 => ?_⟩
      rw [List.getElem?_set] at hj1 hj2
      by_cases hij : i = j
      · subst hij
        simp at hj1 hj2
        rw [← hj1.2, ← hj2.2]; exact hu
      · rw [if_neg hij] at hj1 hj2
        exact h3.2 j c v hj1 hj2
    · have : (ents.modify i (fun e => { e with key := ek k, val := u })).toList.map (·.born) = ents.toList.map (·.born) := by
        apply List.ext_getElem?
        intro j
        simp only [Array.toList_modify, List.getElem?_map, List.getElem?_modify]
        by_cases hij : i = j
        · subst hij; simp only [hei]; simp
        · simp [hij]
      rw [this]; exact h4
    · intro e he
      obtain ⟨j, hj⟩ := List.getElem?_of_mem he
      rw [Array.toList_modify, List.getElem?_modify] at hj
      cases hej : ents.toList[j]? with
      | none => simp [hej] at hj
      | some e0 =>
        have hm0 := h5 e0 (List.mem_of_getElem? hej)
        by_cases hij : i = j
        · simp [hej, hij] at hj; subst hj; exact hm0
        · simp [hej, hij] at hj; subst hj; exact hm0
theorem r_makeMap (m : List (K × α)) (hm : m = []) {mt : TypeId} (ht : Nat.blt t S.nt = true)
    (hr : ∀ b, AWL P w0 C0 ops rest Q (AState.put ⟨S.nt, S.slots, ⟨b, true, .map (encM ek ev m)⟩ :: S.objs⟩ t (.a (.v (.map (some b)))))) :
    AWL P w0 C0 ops (⟨some t, .makeMap mt none, ty, pos, aft, none⟩ :: rest) Q S := by
  rintro a w ⟨C, T, hs⟩
  subst hm
  have hrun : (execOp a.eval ⟨some t, .makeMap mt none, ty, pos, aft, none⟩).run P w = .ok (.value (.map (some w.heap.size))) (w.alloc (.map #[] 0)) := by
    have : (Instr.makeMap mt none).run P w = .ok (.map (some w.heap.size)) (w.alloc (.map #[] 0)) := rfl
    simp [execOp, this]
  refine wpList_plain rfl (fun K hK => ?_)
  unfold Oper.wp
  rw [hrun]
  have hs' := hs.newObj (.map #[] 0) (o := .map (encM ek ev [])) ⟨#[], 0, heap_alloc_at _ _, rfl, Rels.nil, by simp, by simp⟩
  exact hK _ _ (hr w.heap.size _ _ ⟨C, T, hs'.put ht (srel_v _)⟩)
end
end Go.Proofs.Ytljgdbgcleibjaa.A
namespace Go.Proofs.Ytljgdbgcleibjaa.A
open Go Go.RowKit
set_option linter.unusedVariables false
set_option linter.unusedSimpArgs false
set_option linter.unusedSectionVars false
variable {P : Program} {w0 : Base} {C0 C : CS} {T : TS} {S S' : AState} {a : Act} {w : World} {ops : Array Oper} {rest : List Oper} {o : Oper} {Q : Exit → AState → Prop}
variable {t : Nat} {ty ty' : TypeId} {pos : String} {aft : Array Edge}
section
variable {K α : Type} [DecidableEq K]
theorem mget_mset (m : List (K × α)) (k k' : K) (v : α) : mget (mset m k v) k' = if k = k' then some v else mget m k' := by
  induction m with
  | nil => simp [mset, mget]
  | cons p r ih =>
    obtain ⟨x, u⟩ := p
    unfold mset
    split
    · rename_i e; subst e; unfold mget; split <;> rfl
    · rename_i e
      unfold mget
      split
      · rename_i e'; subst e'; rw [if_neg (fun h => e h.symm)]
      · exact ih
end
end Go.Proofs.Ytljgdbgcleibjaa.A
namespace Go.Proofs.Ytljgdbgcleibjaa.A
open Go Go.RowKit
set_option linter.unusedVariables false
set_option linter.unusedSimpArgs false
set_option linter.unusedSectionVars false
variable {P : Program} {w0 : Base} {C0 C : CS} {T : TS} {S S' : AState} {a : Act} {w : World} {ops : Array Oper} {rest : List Oper} {o : Oper} {Q : Exit → AState → Prop}
variable {t : Nat} {ty ty' : TypeId} {pos : String} {aft : Array Edge}
theorem keyEnc_of_eq {K : Type} [DecidableEq K] {kt : TypeId} {d : TypeDesc} {ek : K → Value} (hd : P.underlying kt = some d) (hag : ∀ k, ∃ cs, ek k = .agg cs) (heq : ∀ (a b : K) (w : World), (Op.equal kt (ek a) (ek b)).run P w = .ok (decide (b = a)) w)
    (hc : ∀ (e : Bool) (k : K) (w : World), (Instr.checkKey e 10000 kt (ek k)).run P w = .ok () w) (hst : ∀ k : K, Instr.sameBits 10000 (ek k) (ek k) = true) : KeyEnc P kt ek where
  check := hc
  stay := fun k w => by simp [Instr.keyThatStays, hst]
  find := fun ents ks k w h => by
    have hask : ∀ (ents : List MapEntry) (ks : List K) (i0 : Nat), ents.map (·.key) = ks.map ek → (Instr.findAsking kt (ek k) ents i0).run P w = .ok ((mfind ks k).bind fun i => (ents[i]?).map fun e => (i0 + i, e.val)) w := by
      intro ents
      induction ents with
      | nil => intro ks i0 h; cases ks with | nil => rfl | cons _ _ => simp at h
      | cons e es ih =>
        intro ks i0 h
        cases ks with
        | nil => simp at h
        | cons x ks =>
          simp only [List.map_cons, List.cons.injEq] at h
          unfold Instr.findAsking
          simp only [Sem.run_bind, h.1, heq, Result.andThen]
          by_cases hx : x = k
          · simp [mfind, hx]
          · simp only [hx, decide_false, Bool.false_eq_true, if_false]
            rw [ih ks (i0 + 1) h.2]
            cases hm : mfind ks k with
            | none => simp [mfind, hx, hm]
            | some i => simp [mfind, hx, hm, Nat.add_assoc, Nat.add_comm 1 i]
    have hnow : ents = [] ∨ Instr.findNow d (ek k) ents 0 = none := by
      cases ents with
      | nil => exact .inl rfl
      | cons e es =>
        right
        obtain ⟨cs, hcs⟩ := hag k
        unfold Instr.findNow
        rw [hcs]
        have : Instr.sameNow d (.agg cs) e.key = none := by cases d <;> rfl
        rw [this]
    rcases hnow with rfl | hnow
    · cases ks with
      | nil => simp [Instr.findKey, run_underlying hd, Instr.findNow, mfind]
      | cons _ _ => simp at h
    · have := hask ents ks 0 h
      simp only [Nat.zero_add] at this
      simp only [Instr.findKey, Sem.run_bind, run_underlying hd, Result.andThen, hnow]
      exact this
section
variable {K α : Type} [DecidableEq K] {ek : K → Value} {ev : α → AV} {kt et : TypeId}
theorem r_lookupK (i : Nat) (KE : KeyEnc P kt ek) {x y : Operand} {sy : SV} {b : Nat} {rw' : Bool} {m : List (K × α)} {k : K} (z : α) {mt : TypeId} (hx : S.ev x = some (.a (.v (.map (some b))))) (hi : S.objs[i]? = some ⟨b, rw', .map (encM ek ev m)⟩) (hy : S.ev y = some sy) (hyk : IsVal sy.av (ek k))
    (hmt : mapT P mt = some (kt, et)) (hz : ZeroAV P et (ev z)) (ht : Nat.blt t S.nt = true)
    (hr : AWL P w0 C0 ops rest Q (S.put t (.a (ev ((mget m k).getD z))))) : AWL P w0 C0 ops (⟨some t, .lookup mt x y false, ty, pos, aft, none⟩ :: rest) Q S :=
  awl_pure ht (fun C T a w hs => by
    obtain ⟨u, h1, h2, h3⟩ := run_look KE hmt (hs.objs _ (mem_of_get hi)).1 k z hz
    exact ⟨u, by simp [execOp, hs.evv hx, (hyk C _).1 (hs.ev hy).av, h2], h1⟩) hr
theorem r_mapUpdateK (i : Nat) (KE : KeyEnc P kt ek) {x y v : Operand} {sy : SV} {b : Nat} {m : List (K × α)} {k : K} (z : α) {sv : SV} {mt : TypeId} (hx : S.ev x = some (.a (.v (.map (some b))))) (hi : S.objs[i]? = some ⟨b, true, .map (encM ek ev m)⟩) (hy : S.ev y = some sy) (hyk : IsVal sy.av (ek k)) (hv : S.ev v = some sv) (hz : sv.av = ev z)
    (hmt : mapT P mt = some (kt, et))
    (hr : AWL P w0 C0 ops rest Q ⟨S.nt, S.slots, S.objs.set i ⟨b, true, .map (encM ek ev (mset m k z))⟩⟩) : AWL P w0 C0 ops (⟨none, .mapUpdate mt x y v, ty, pos, aft, none⟩ :: rest) Q S := by
  refine awl_opu rfl rfl (fun C T a w hs => ?_) hr
  have hob : ObjRel C b (.map (encM ek ev m)) w := (hs.objs _ (mem_of_get hi)).1
  have hb : b < w.heap.size := hs.objlt (mem_of_get hi)
  have hu := (hs.ev hv).av
  rw [hz] at hu
  generalize hvv : a.eval v = uv at hu
  obtain ⟨ents', clock', hrun, g1, g2, g3⟩ := run_upd KE hmt hob k z hu
  refine ⟨{ w with heap := w.heap.setIfInBounds b (.map ents' clock') }, C, T, by simp [execOp, hs.evv hx, (hyk C _).1 (hs.ev hy).av, hvv, hrun], hs.setObj hi (Nat.le_refl _) rfl rfl rfl (by simp) (fun j hj => by rw [Array.getElem?_setIfInBounds, if_neg (fun e : b = j => hj e.symm)]) ⟨ents', clock', by simp [hb], g1, g2, g3⟩⟩
end
end Go.Proofs.Ytljgdbgcleibjaa.A
namespace Go.Proofs.Ytljgdbgcleibjaa.A
open Go Go.RowKit
set_option linter.unusedVariables false
set_option linter.unusedSimpArgs false
set_option linter.unusedSectionVars false
variable {P : Program} {w0 : Base} {C0 C : CS} {T : TS} {S S' : AState} {a : Act} {w : World} {ops : Array Oper} {rest : List Oper} {o : Oper} {Q : Exit → AState → Prop}
theorem resK1_run {fn : Func} {rv : ResultVar} (hr : fn.results = #[rv]) : ∀ (w0 : Base) (C0 C : CS) (T : TS) (S : AState) (a : Act) (w : World) (r : AV), SimC w0 C0 C T S a w → ResK P S rv r → ∃ v, (results fn a.tmps).run P w = .ok v w ∧ Rel C r v := by
  intro w0 C0 C T S a w r hs h
  obtain ⟨v, h1, h2⟩ := h.run hs
  refine ⟨v, ?_, h2⟩
  cases rv <;> simp only [resOne] at h1 <;> simp [results, hr, h1] <;> simpa using h1
end Go.Proofs.Ytljgdbgcleibjaa.A
namespace Go.Proofs.Ytljgdbgcleibjaa.A
open Go Go.RowKit
set_option linter.unusedVariables false
set_option linter.unusedSimpArgs false
set_option linter.unusedSectionVars false
variable {P : Program} {w0 : Base} {C0 C : CS} {T : TS} {S S' : AState} {a : Act} {w : World} {ops : Array Oper} {rest : List Oper} {o : Oper} {Q : Exit → AState → Prop}
variable {t : Nat} {ty ty' : TypeId} {pos : String} {aft : Array Edge}
theorem run_checkFs {d : Nat} (em : Bool) (ih : ∀ t q, eqF P d t = some q → ∀ e, d ≤ e → ∀ us, Kn q us → ∀ w, (Instr.checkKey em e t (mkV P t us)).run P w = .ok () w) (e : Nat) (he : d ≤ e) (xs : Array Value) (g : Field → PUnit → Sem (ForInStep PUnit))
    (hg : ∀ (f : Field) (v : Value) (w : World), f.name ≠ "_" → (part f.type xs f.offset).run P w = .ok v w → (Instr.checkKey em e f.type v).run P w = .ok () w → (g f PUnit.unit).run P w = .ok (.yield PUnit.unit) w) (w : World) :
    ∀ (fs : List Field) (o : Nat) (qs : List VK), eqFs P (eqF P d) o fs = some qs → ∀ (us : List Value), xs.toList.drop o = us → Kn qs us → (forIn (m := Sem) fs PUnit.unit g).run P w = .ok PUnit.unit w
  | [], o, qs, h, us, _, _ => by simp
  | f :: fs, o, qs, h, us, hx, hu => by
    obtain ⟨f1, f2, q, qr, hq, hs, hr, rfl⟩ := eqFs_cons h
    obtain ⟨u1, u2, rfl, hu1, hu2⟩ := hu.split
    have px := run_partF hs hx hu1 (eqF_agg hq) w
    have hx2 : xs.toList.drop (o + q.length) = u2 := by rw [← List.drop_drop, hx, ← hu1.len, List.drop_left]
    have ihr := run_checkFs em ih e he xs g hg w fs _ qr hr u2 hx2 hu2
    have hgf := hg f _ w f1 (by rw [f2]; exact px) (ih _ _ hq e he u1 hu1 w)
    rw [List.forIn_cons]
    simp only [Sem.run_bind, hgf, Result.andThen]
    exact ihr
theorem run_checkF (em : Bool) : ∀ (d : Nat) (t : TypeId) (q : List VK), eqF P d t = some q → ∀ e, d ≤ e → ∀ us, Kn q us → ∀ w, (Instr.checkKey em e t (mkV P t us)).run P w = .ok () w
  | 0, _, _, h, _, _, _, _, _ => by cases h
  | d + 1, t, q, h, 0, he, _, _, _ => by omega
  | d + 1, t, q, h, e + 1, he, us, hu, w => by
    unfold eqF at h
    split at h
    · rename_i q' hd
      split at h
      · rename_i hna
        cases h
        match us, hu with
        | [u], hu =>
          obtain ⟨n, rfl⟩ := hu.1
          simp [mkV, notAgg_eq hna, Instr.checkKey, run_underlying hd]
      · cases h
    · rename_i hd
      split at h
      · rename_i hna
        cases h
        match us, hu with
        | [u], hu =>
          obtain ⟨n, rfl⟩ := hu.1
          simp [mkV, notAgg_eq hna, Instr.checkKey, run_underlying hd]
      · cases h
    · rename_i fs hd
      split at h
      · rename_i hc
        simp only [Bool.and_eq_true, Bool.not_eq_true'] at hc
        have hag := isAggB_eq hc.2
        simp only [mkV, hag, if_true]
        unfold Instr.checkKey
        simp only [Sem.run_bind, run_underlying hd, Result.andThen]
        rw [← Array.forIn_toList]
        rw [run_checkFs em (fun t q h => run_checkF em d t q h) e (by omega) us.toArray _ ?hg w fs.toList 0 q h us (by simp) hu]
        · rfl
        · intro f v w h1 h2 h3
          simp [h1, Sem.run_bind, h2, h3]
      · cases h
    · cases h
theorem sameBits_kn {n : Nat} {v : Value} {k : VK} (h : k.is v) : Instr.sameBits n v v = true := by
  cases k with
  | int q => obtain ⟨m, rfl⟩ := h; simp [Instr.sameBits]
  | bool => obtain ⟨m, rfl⟩ := h; simp [Instr.sameBits]
theorem sameBits_flat {us : List Value} (h : ∀ v ∈ us, ∃ k : VK, k.is v) : Instr.sameBits 10000 (.agg us.toArray) (.agg us.toArray) = true := by
  unfold Instr.sameBits
  simp only [beq_self_eq_true, Bool.true_and, List.all_eq_true]
  intro p hp
  have : ∀ (l : List Value), (∀ v ∈ l, ∃ k : VK, k.is v) → ∀ p ∈ l.zip l, ∃ v, p = (v, v) ∧ ∃ k : VK, k.is v := by
    intro l
    induction l with
    | nil => intro _ p hp; simp at hp
    | cons v l ih =>
      intro hl p hp
      rw [List.zip_cons_cons] at hp
      rcases List.mem_cons.1 hp with rfl | hp
      · exact ⟨v, rfl, hl v (by simp)⟩
      · exact ih (fun v hv => hl v (List.mem_cons_of_mem _ hv)) p hp
  obtain ⟨v, rfl, k, hk⟩ := this us h p (by simpa using hp)
  exact sameBits_kn hk
theorem keyEnc_flat {K : Type} [DecidableEq K] {kt : TypeId} {q : List VK} (h : FlatT P kt q) (cells : K → List Value) (hinj : ∀ a b, cells a = cells b → a = b) (hk : ∀ k, Kn q (cells k)) : KeyEnc P kt (fun k => .agg (cells k).toArray) := by
  refine keyEnc_of_eq h.str (fun k => ⟨_, rfl⟩) (fun a b w => ?_) (fun e k w => ?_) (fun k => sameBits_flat (hk k).mem)
  · simp only [Op.equal, Op.maxDepth]
    rw [run_flat h (hk a) (hk b) (decide (b = a)) (by rw [decide_eq_true_eq]; exact ⟨fun e => by rw [e], fun e => (hinj _ _ e).symm⟩) w]
  · have := run_checkF e 5 kt q h.eq 10000 (by omega) (cells k) (hk k) w
    simpa only [mkV, h.agg, if_true] using this
end Go.Proofs.Ytljgdbgcleibjaa.A
namespace Go.Proofs.Ytljgdbgcleibjaa.A
open Go Go.RowKit
set_option linter.unusedVariables false
set_option linter.unusedSimpArgs false
theorem chV_inj {x y : Sp × Bool} (h : chV x = chV y) : x = y := by
  obtain ⟨a, v⟩ := x; obtain ⟨b, w⟩ := y
  simp [chV, Sp.vs] at h
  obtain ⟨h1, h2, h3, h4, rfl⟩ := h
  rw [Sp.ext' h1 h2 h3 h4]
theorem mis_len (l : List It) (x : It) (c : Bool) : (mis l x c).length ≤ 1 := by unfold mis; split <;> simp
theorem btwLen (A B : List It) : ∀ (a b : List It), (btwGo A B a b).length ≤ a.length + b.length := by
  intro a b
  induction a, b using btwGo.induct with
  | case1 => rw [btwGo]; simp
  | case2 x a ih => rw [btwGo, List.length_append]; have := mis_len B x false; simp at *; omega
  | case3 y b ih => rw [btwGo, List.length_append]; have := mis_len A y true; simp at *; omega
  | case4 x a y b h ih => rw [btwGo, if_pos h, List.length_append]; have := mis_len B x false; simp at *; omega
  | case5 x a y b h ih => rw [btwGo, if_neg h, List.length_append]; have := mis_len A y true; simp at *; omega
end Go.Proofs.Ytljgdbgcleibjaa.A
namespace Go.Proofs.Ytljgdbgcleibjaa.A
open Go Go.RowKit
set_option linter.unusedVariables false
set_option linter.unusedSimpArgs false
set_option maxRecDepth 100000
theorem TF.sz24 : szT Try.prog 24 = some 1 := by kernel_rfl
theorem TF.map53 : mapT Try.prog 53 = some (55, 4) := by kernel_rfl
end Go.Proofs.Ytljgdbgcleibjaa.A
namespace Go.Proofs.Ytljgdbgcleibjaa.A
open Go Go.RowKit
set_option linter.unusedVariables false
set_option linter.unusedSimpArgs false
set_option maxRecDepth 100000
theorem refBtw_len (X Y : List It) : (refBtw X Y).length ≤ X.length + Y.length := btwLen X Y X Y
end Go.Proofs.Ytljgdbgcleibjaa.A
namespace Go.Proofs.Ytljgdbgcleibjaa.A
open Go Go.RowKit
set_option linter.unusedVariables false
set_option linter.unusedSimpArgs false
variable {P : Program} {w0 : Base} {C0 C : CS} {T : TS} {S S' : AState} {a : Act} {w : World} {ops : Array Oper} {rest : List Oper} {o : Oper} {Q : Exit → AState → Prop}
variable {t : Nat} {ty ty' : TypeId} {pos : String} {aft : Array Edge}
def ekC (c : Sp × Bool) : Value := .agg (chV c).toArray
def setC (l : List (Sp × Bool)) : List ((Sp × Bool) × Bool) := l.foldl (fun m c => mset m c true) []
theorem setC_snoc {l : List (Sp × Bool)} {i : Nat} {c : Sp × Bool} (h : l[i]? = some c) : setC (l.take (i + 1)) = mset (setC (l.take i)) c true := by
  unfold setC; rw [List.take_add_one, h, List.foldl_append]; rfl
theorem setC_get (l : List (Sp × Bool)) (z : Sp × Bool) : (mget (setC l) z).getD false = decide (z ∈ l) := by
  have : ∀ (l : List (Sp × Bool)) (m : List ((Sp × Bool) × Bool)), (mget (l.foldl (fun m c => mset m c true) m) z).getD false = (decide (z ∈ l) || (mget m z).getD false) := by
    intro l
    induction l with
    | nil => intro m; simp
    | cons c l ih =>
      intro m
      rw [List.foldl_cons, ih, mget_mset]
      by_cases h : c = z
      · subst h; simp
      · rw [if_neg h, Bool.eq_iff_iff]
        have h' : ¬ z = c := fun e => h e.symm
        simp [h']
  have h := this l []
  simpa [setC, mget] using h
end Go.Proofs.Ytljgdbgcleibjaa.A
namespace Go.Proofs.Ytljgdbgcleibjaa.A
open Go Go.RowKit
set_option linter.unusedVariables false
set_option linter.unusedSimpArgs false
set_option maxRecDepth 100000
theorem TF.zav4 : ZeroAV Try.prog 4 (.v (.bool false)) := ⟨.v (.bool false), by kernel_rfl, .one (.refl _)⟩
theorem keyC : KeyEnc Try.prog 55 ekC := keyEnc_flat flat55 chV (fun _ _ => chV_inj) chV_kn
end Go.Proofs.Ytljgdbgcleibjaa.A
namespace Go.Proofs.Ytljgdbgcleibjaa.A
open Go Go.RowKit
set_option linter.unusedVariables false
set_option linter.unusedSimpArgs false
theorem look_del {l : List It} (hs : Srt l) (k k' : Sp) : look (refDel l k) k' = if k = k' then none else look l k' := by
  split
  · rename_i e; subst e
    exact look_none (fun x hx => by have := (List.mem_filter.1 hx).2; simpa using this)
  · rename_i ne
    have hs' : Srt (refDel l k) := hs.sublist List.filter_sublist
    cases h : look l k' with
    | none =>
      cases h' : look (refDel l k) k' with
      | none => rfl
      | some v => have := look_mem hs (List.mem_filter.1 (look_some h')).1; rw [h] at this; cases this
    | some v => exact look_mem hs' (List.mem_filter.2 ⟨look_some h, by simpa using fun e : k' = k => ne e.symm⟩)
theorem look_put {l : List It} (hs : Srt l) (k k' : Sp) (v : Int) : look (refPut l k v) k' = if k = k' then some v else look l k' := by
  split
  · rename_i e; subst e
    exact look_mem (srt_put' hs k v) ((put_mem hs).2 (.inl rfl))
  · rename_i ne
    cases h : look l k' with
    | none =>
      cases h' : look (refPut l k v) k' with
      | none => rfl
      | some w =>
        rcases (put_mem hs).1 (look_some h') with e | ⟨h1, _⟩
        · exact absurd (congrArg (·.1) e).symm ne
        · have := look_mem hs h1; rw [h] at this; cases this
    | some w => exact look_mem (srt_put' hs k v) ((put_mem hs).2 (.inr ⟨look_some h, fun e => ne e.symm⟩))
theorem srt_ext {l m : List It} (hl : Srt l) (hm : Srt m) (h : ∀ k, look l k = look m k) : l = m := by
  have hmem : ∀ x, x ∈ l ↔ x ∈ m := fun x => ⟨fun hx => by have := look_mem hl (k := x.1) (v := x.2) hx; rw [h] at this; exact look_some this, fun hx => by have := look_mem hm (k := x.1) (v := x.2) hx; rw [← h] at this; exact look_some this⟩
  have nd : ∀ {l : List It}, Srt l → l.Nodup := fun h => h.imp (fun h e => by subst e; exact Sp.irrefl _ h)
  have hp : l.Perm m := (List.perm_ext_iff_of_nodup (nd hl) (nd hm)).2 hmem
  exact hp.eq_of_pairwise (fun a b _ _ h1 h2 => absurd h2 (Sp.asym h1)) hl hm
def turnS (Z : List It) (x : List It) (p : Sp × Bool) : List It := if p.2 then refPut x p.1 ((look Z p.1).getD 0) else refDel x p.1
def turnF (Z X : List It) (cs : List (Sp × Bool)) : List It := cs.foldl (turnS Z) X
theorem turnF_snoc {Z X : List It} {cs : List (Sp × Bool)} {i : Nat} {p : Sp × Bool} (h : cs[i]? = some p) : turnF Z X (cs.take (i + 1)) = turnS Z (turnF Z X (cs.take i)) p := by
  unfold turnF; rw [List.take_add_one, h, List.foldl_append]; rfl
theorem turn_srt {Z X : List It} (h : Srt X) : ∀ (cs : List (Sp × Bool)), Srt (turnF Z X cs) := by
  intro cs
  unfold turnF
  induction cs generalizing X with
  | nil => exact h
  | cons p cs ih =>
    rw [List.foldl_cons]
    refine ih ?_
    unfold turnS; split
    · exact srt_put' h _ _
    · exact srt_del' h _
theorem turn_len {Z : List It} : ∀ (cs : List (Sp × Bool)) {X : List It}, (turnF Z X cs).length ≤ X.length + cs.length := by
  intro cs
  unfold turnF
  induction cs with
  | nil => intro X; simp
  | cons p cs ih =>
    intro X
    rw [List.foldl_cons, List.length_cons]
    have h1 := ih (X := turnS Z X p)
    have h2 : (turnS Z X p).length ≤ X.length + 1 := by
      unfold turnS; split
      · exact refPut_len _ _ _
      · exact Nat.le_trans (List.length_filter_le _ _) (by omega)
    omega
theorem turn_look {Z X : List It} (hX : Srt X) (k : Sp) : ∀ (n : Nat) (cs : List (Sp × Bool)), cs.length = n → cs.Pairwise ltC → look (turnF Z X cs) k = if (k, true) ∈ cs then some ((look Z k).getD 0) else if (k, false) ∈ cs then none else look X k
  | 0, cs, h, _ => by obtain rfl := List.length_eq_zero_iff.1 h; simp [turnF]
  | n + 1, cs, h, hp => by
    obtain ⟨ds, p, rfl⟩ : ∃ ds p, cs = ds ++ [p] := by
      have hne : cs ≠ [] := fun e => by rw [e] at h; cases h
      exact ⟨_, _, (List.dropLast_concat_getLast hne).symm⟩
    have hp' := List.pairwise_append.1 hp
    have ih := turn_look hX (Z := Z) k n ds (by simp at h; exact h) hp'.1
    have e : turnF Z X (ds ++ [p]) = turnS Z (turnF Z X ds) p := by unfold turnF; rw [List.foldl_append]; rfl
    rw [e]
    obtain ⟨k', c⟩ := p
    unfold turnS
    by_cases hk : k' = k
    · subst hk
      cases c with
      | true => simp only [if_true]; rw [look_put (turn_srt hX ds), if_pos rfl, if_pos (by simp)]
      | false =>
        have hn : (k', true) ∉ ds ++ [(k', false)] := fun hm => by
          rcases List.mem_append.1 hm with hm | hm
          · rcases hp'.2.2 _ hm _ (List.mem_singleton.2 rfl) with h | ⟨_, h, _⟩
            · exact Sp.irrefl _ h
            · cases h
          · simp at hm
        simp only [Bool.false_eq_true, if_false]
        rw [look_del (turn_srt hX ds), if_pos rfl, if_neg hn, if_pos (by simp)]
    · have hk' : ¬ k = k' := fun e => hk e.symm
      have ht : ((k, true) ∈ ds ++ [(k', c)]) ↔ (k, true) ∈ ds := by simp [hk']
      have hf : ((k, false) ∈ ds ++ [(k', c)]) ↔ (k, false) ∈ ds := by simp [hk']
      simp only [ht, hf]
      rw [← ih]
      cases c with
      | true => simp only [if_true]; rw [look_put (turn_srt hX ds), if_neg hk]
      | false => simp only [Bool.false_eq_true, if_false]; rw [look_del (turn_srt hX ds), if_neg hk]
theorem btw_came {X Z : List It} {k : Sp} (hZ : Srt Z) (h : (k, true) ∈ refBtw X Z) : ∃ v, look Z k = some v := by
  unfold refBtw at h
  rw [btw_mem] at h
  rcases h with ⟨h, _⟩ | ⟨_, z, hz, hk, _⟩
  · cases h
  · exact ⟨z.2, look_mem hZ (by rw [← show z.1 = k from hk]; exact hz)⟩
theorem turn_all {X Z : List It} (hX : Srt X) (hZ : Srt Z) : turnF Z X (refBtw X Z) = Z := by
  refine srt_ext (turn_srt hX _) hZ (fun k => ?_)
  rw [turn_look hX k _ _ rfl (btw_pw hX hZ)]
  split
  · rename_i h
    obtain ⟨v, hv⟩ := btw_came hZ h
    rw [hv]; rfl
  · rename_i h1
    have h1' : ∀ v, (k, v) ∈ Z → (k, v) ∈ X := fun v hv => by
      by_cases h : (k, v) ∈ X
      · exact h
      · exact absurd (by unfold refBtw; rw [btw_mem]; exact .inr ⟨rfl, (k, v), hv, rfl, h⟩) h1
    split
    · rename_i h2
      unfold refBtw at h2
      rw [btw_mem] at h2
      rcases h2 with ⟨_, z, hz, hk, hn⟩ | ⟨h, _⟩
      · cases h : look Z k with
        | none => rfl
        | some v =>
          have hm := look_some h
          have : z = (k, v) := srt_key hX hz (h1' v hm) hk
          rw [this] at hn; exact absurd hm hn
      · cases h
    · rename_i h2
      cases h : look Z k with
      | some v => exact look_mem hX (h1' v (look_some h))
      | none =>
        cases h' : look X k with
        | none => rfl
        | some v =>
          refine absurd ?_ h2
          unfold refBtw; rw [btw_mem]
          exact .inl ⟨rfl, (k, v), look_some h', rfl, fun hm => by have := look_mem hZ hm; rw [h] at this; cases this⟩
def flipC (p : Sp × Bool) : Sp × Bool := (p.1, !p.2)
theorem flip_flip (p : Sp × Bool) : flipC (flipC p) = p := by unfold flipC; simp
theorem btw_flip {X Y : List It} {p : Sp × Bool} : flipC p ∈ refBtw X Y ↔ p ∈ refBtw Y X := by
  unfold refBtw flipC
  rw [btw_mem, btw_mem]
  cases h : p.2 <;> simp
theorem nodupC {l : List (Sp × Bool)} (h : l.Pairwise ltC) : l.Nodup := h.imp (fun h e => by subst e; exact ltC_irrefl _ h)
theorem btw_len_eq {X Y : List It} (hX : Srt X) (hY : Srt Y) : (refBtw X Y).length = (refBtw Y X).length := by
  have h1 : ((refBtw X Y).map flipC).Nodup := List.Pairwise.map flipC (fun a b h e => h (by rw [← flip_flip a, ← flip_flip b, e])) (nodupC (btw_pw hX hY))
  have h2 : ((refBtw X Y).map flipC).Perm (refBtw Y X) := (List.perm_ext_iff_of_nodup h1 (nodupC (btw_pw hY hX))).2 (fun p => by
    rw [List.mem_map, ← btw_flip]
    constructor
    · rintro ⟨q, hq, rfl⟩; rw [flip_flip]; exact hq
    · exact fun h => ⟨_, h, flip_flip p⟩)
  have := h2.length_eq
  rw [List.length_map] at this; exact this
theorem btw_self {X : List It} (hX : Srt X) : refBtw X X = [] := by
  refine List.eq_nil_iff_forall_not_mem.2 (fun p hp => ?_)
  unfold refBtw at hp
  rw [btw_mem] at hp
  rcases hp with ⟨_, z, hz, _, hn⟩ | ⟨_, z, hz, _, hn⟩ <;> exact hn hz
theorem rels_one {C : CS} {x : AV} {us : List Value} (h : Rels C [x] us) : ∃ u, Rel C x u := by
  obtain ⟨hl, hr⟩ := h
  match us, hl with
  | [u], _ => exact ⟨u, hr 0 x u rfl rfl⟩
section
variable {P : Program} {w0 : Base} {C0 C : CS} {T : TS} {S S' : AState} {a : Act} {w : World} {ops : Array Oper} {rest : List Oper} {o : Oper} {Q : Exit → AState → Prop}
variable {t : Nat} {ty ty' : TypeId} {pos : String} {aft : Array Edge}
theorem r_storeT (i : Nat) {x y : Operand} {b : Nat} {c : AV} {tv : TreeV} (hx : S.ev x = some (.a (.v (.pointer (some ⟨b, 0, none⟩))))) (hi : S.objs[i]? = some ⟨b, true, .box [c]⟩) (hy : S.ev y = some (.a (encT tv))) (hn : szT P ty' = some 1)
    (hr : AWL P w0 C0 ops rest Q ⟨S.nt, S.slots, S.objs.set i ⟨b, true, .box [encT tv]⟩⟩) :
    AWL P w0 C0 ops (⟨none, .store ty' x y, ty, pos, aft, none⟩ :: rest) Q S := by
  have e : (SV.a (encT tv)).av.cells = [encT tv] := encT_cells tv
  refine r_store i hx hi hy hn (by rw [e]; rfl) rfl (by rw [e]; exact encT_one tv) ?_
  rw [e]; exact hr
end
end Go.Proofs.Ytljgdbgcleibjaa.A
namespace Go.Proofs.Ytljgdbgcleibjaa.A
open Go Go.RowKit
set_option linter.unusedVariables false
set_option linter.unusedSimpArgs false
set_option maxRecDepth 100000
theorem TF.zero24 : ZeroT Try.prog 24 [.v (.pointer none)] := ⟨[(.pointer none)], by kernel_rfl, (LeCells.refl _)⟩
set_option maxHeartbeats 2000000 in
theorem turns_walk (l m u : List Ac) : AC Try.prog 5 [.sl 6 (l.map Ac.cs), .sl 6 (m.map Ac.cs), .sl 6 (u.map Ac.cs)] [] (fun r n => n = [] ∧ r = boolA true) := by
 refine ac_of_awpG (fun S r => ResK Try.prog S (.cell 6 4) r) (nt := 132) Try.func5 rfl rfl rfl (resK1_run rfl) (fun w0 C0 hq => ?_)
 refine awp_seq ?_
 refine awp_region ?_
 refine r_alloc TF.zero4 rfl (fun b6 => ?_)
 refine awl_nil ?_
 refine x_then ?_
 refine awp_seq ?_
 refine awp_seq ?_
 refine awp_region ?_
 refine r_call0 hq rfl rfl .nil (awake_ok) rfl TF.en11 rfl (fun r hr => ?_)
 obtain rfl := hr
 refine r_not rfl rfl ?_
 refine awl_nil ?_
 refine x_then ?_
 refine awp_cond rfl (fun hc0 => ?_) (fun hc0 => ?_)
 ·
  exfalso; cases hc0
 ·
  refine awp_skip ?_
  refine x_then ?_
  refine awp_seq ?_
  refine awp_seq ?_
  refine awp_region ?_
  refine r_move rfl rfl ?_
  first | (refine r_lenS rfl rfl TF.sl22 rfl ?_) | (refine r_lenNil rfl TF.sl22 rfl ?_) | (refine r_lenV rfl TF.sl22 rfl ?_)
  refine r_cmp rfl rfl rfl rfl ?_
  refine r_move rfl rfl ?_
  refine g_cases (t' := 30) rfl (fun hg30 => ?_) (fun hg30 => ?_)
  ·
   refine g_skip rfl rfl hg30 rfl ?_
   refine g_skip rfl rfl hg30 rfl ?_
   refine g_skip rfl rfl hg30 rfl ?_
   refine r_pickT rfl hg30 rfl rfl ?_
   refine r_move rfl rfl ?_
   refine g_skip rfl rfl rfl rfl ?_
   refine g_skip rfl rfl rfl rfl ?_
   refine g_skip rfl rfl rfl rfl ?_
   refine r_pickT rfl rfl rfl rfl ?_
   refine awl_nil ?_
   refine x_then ?_
   refine awp_condT rfl ?_
   refine awp_seq ?_
   refine awp_region ?_
   refine r_store 0 rfl rfl rfl TF.sz4 rfl rfl rfl ?_
   refine awl_nil ?_
   refine x_then ?_
   refine awp_ret ?_
   refine x_thenR ?_
   exact ⟨(.inl rfl), _, [], (by first | exact .one 0 rfl rfl TF.agg4 | exact .one 1 rfl rfl TF.agg4 | exact .one 2 rfl rfl TF.agg4 | exact .one 3 rfl rfl TF.agg4 | exact .one 4 rfl rfl TF.agg4 | exact .one 5 rfl rfl TF.agg4), ⟨rfl, rfl⟩, (List.nil_sublist _), (by simp)⟩
  ·
   have hl_l : l.length ≤ 50 := by have := of_decide_eq_false hg30; simp at this; omega
   refine g_run rfl rfl hg30 ?_
   refine r_move rfl rfl ?_
   refine g_run rfl rfl hg30 ?_
   first | (refine r_lenS rfl rfl TF.sl22 rfl ?_) | (refine r_lenNil rfl TF.sl22 rfl ?_) | (refine r_lenV rfl TF.sl22 rfl ?_)
   refine g_run rfl rfl hg30 ?_
   refine r_cmp rfl rfl rfl rfl ?_
   refine r_pickF rfl hg30 rfl rfl ?_
   refine r_move rfl rfl ?_
   refine g_cases (t' := 35) rfl (fun hg35 => ?_) (fun hg35 => ?_)
   ·
    refine g_skip rfl rfl hg35 rfl ?_
    refine g_skip rfl rfl hg35 rfl ?_
    refine g_skip rfl rfl hg35 rfl ?_
    refine r_pickT rfl hg35 rfl rfl ?_
    refine awl_nil ?_
    refine x_then ?_
    refine awp_condT rfl ?_
    refine awp_seq ?_
    refine awp_region ?_
    refine r_store 0 rfl rfl rfl TF.sz4 rfl rfl rfl ?_
    refine awl_nil ?_
    refine x_then ?_
    refine awp_ret ?_
    refine x_thenR ?_
    exact ⟨(.inl rfl), _, [], (by first | exact .one 0 rfl rfl TF.agg4 | exact .one 1 rfl rfl TF.agg4 | exact .one 2 rfl rfl TF.agg4 | exact .one 3 rfl rfl TF.agg4 | exact .one 4 rfl rfl TF.agg4 | exact .one 5 rfl rfl TF.agg4), ⟨rfl, rfl⟩, (List.nil_sublist _), (by simp)⟩
   ·
    have hl_m : m.length ≤ 30 := by have := of_decide_eq_false hg35; simp at this; omega
    refine g_run rfl rfl hg35 ?_
    refine r_move rfl rfl ?_
    refine g_run rfl rfl hg35 ?_
    first | (refine r_lenS rfl rfl TF.sl22 rfl ?_) | (refine r_lenNil rfl TF.sl22 rfl ?_) | (refine r_lenV rfl TF.sl22 rfl ?_)
    refine g_run rfl rfl hg35 ?_
    refine r_cmp rfl rfl rfl rfl ?_
    refine r_pickF rfl hg35 rfl rfl ?_
    refine awl_nil ?_
    refine x_then ?_
    refine awp_cond rfl (fun hc1 => ?_) (fun hc1 => ?_)
    ·
     refine awp_seq ?_
     refine awp_region ?_
     refine r_store 0 rfl rfl rfl TF.sz4 rfl rfl rfl ?_
     refine awl_nil ?_
     refine x_then ?_
     refine awp_ret ?_
     refine x_thenR ?_
     exact ⟨(.inl rfl), _, [], (by first | exact .one 0 rfl rfl TF.agg4 | exact .one 1 rfl rfl TF.agg4 | exact .one 2 rfl rfl TF.agg4 | exact .one 3 rfl rfl TF.agg4 | exact .one 4 rfl rfl TF.agg4 | exact .one 5 rfl rfl TF.agg4), ⟨rfl, rfl⟩, (List.nil_sublist _), (by simp)⟩
    ·
     have hl_u : u.length ≤ 30 := by have := of_decide_eq_false hc1; simp at this; omega
     refine awp_skip ?_
     refine x_then ?_
     refine awp_seq ?_
     refine awp_region ?_
     refine r_call0 hq rfl rfl .nil (New_ok) rfl TF.en13 rfl (fun r hr => ?_)
     obtain rfl := hr
     refine r_move rfl rfl ?_
     refine r_call0 hq rfl rfl (.cons (.ev rfl rfl) (.cons (.nil rfl) (.cons (.ev rfl rfl) .nil))) (play_ok (some (none, 0)) [] good_new l (by simp; omega)) rfl TF.en12 rfl (fun r hr => ?_)
     obtain ⟨tt, hgtt, rfl⟩ := hr
     have hp_V := refPlay_len [] l
     try simp only [List.length_nil, Nat.zero_add] at hp_V
     generalize refPlay [] l = V at hgtt hp_V ⊢
     refine r_move rfl rfl ?_
     refine r_extract rfl rfl rfl ?_
     refine r_extract rfl rfl rfl ?_
     refine r_assign rfl rfl ?_
     refine r_assign rfl rfl ?_
     refine awl_nil ?_
     refine x_then ?_
     refine awp_seq ?_
     refine awp_region ?_
     refine r_move rfl rfl ?_
     refine r_move rfl rfl ?_
     refine r_move rfl rfl ?_
     refine r_call0 hq rfl rfl (.cons (.ev rfl rfl) (.cons (.ev rfl rfl) (.cons (.ev rfl rfl) .nil))) (play_ok tt V hgtt m (by omega)) rfl TF.en12 rfl (fun r hr => ?_)
     obtain ⟨ta, hgta, rfl⟩ := hr
     have hp_X := refPlay_len V m
     try simp only [List.length_nil, Nat.zero_add] at hp_X
     generalize refPlay V m = X at hgta hp_X ⊢
     refine r_move rfl rfl ?_
     refine r_extract rfl rfl rfl ?_
     refine r_extract rfl rfl rfl ?_
     refine r_assign rfl rfl ?_
     refine r_assign rfl rfl ?_
     refine awl_nil ?_
     refine x_then ?_
     refine awp_seq ?_
     refine awp_region ?_
     refine r_move rfl rfl ?_
     refine r_move rfl rfl ?_
     refine r_move rfl rfl ?_
     refine r_call0 hq rfl rfl (.cons (.ev rfl rfl) (.cons (.ev rfl rfl) (.cons (.ev rfl rfl) .nil))) (play_ok tt V hgtt u (by omega)) rfl TF.en12 rfl (fun r hr => ?_)
     obtain ⟨tb, hgtb, rfl⟩ := hr
     have hp_Z := refPlay_len V u
     try simp only [List.length_nil, Nat.zero_add] at hp_Z
     generalize refPlay V u = Z at hgtb hp_Z ⊢
     refine r_move rfl rfl ?_
     refine r_extract rfl rfl rfl ?_
     refine r_extract rfl rfl rfl ?_
     refine r_alloc TF.zero24 rfl (fun b11 => ?_)
     first | (refine r_storeT 0 rfl rfl rfl TF.sz24 ?_) | (refine r_storeT 1 rfl rfl rfl TF.sz24 ?_)
     refine r_assign rfl rfl ?_
     refine awl_nil ?_
     refine x_then ?_
     refine awp_seq ?_
     refine awp_region ?_
     refine awl_fact (φ := Coh ta tb) (fun C T a w hs => coh_of hgta.wf hgtb.wf (hs.slots 9 (.a (encT ta)) rfl) (hs.slots 58 (.a (encT tb)) rfl)) (fun hcoh => ?_)
     have hch := chg_ref hcoh hgta hgtb
     have hbl := refBtw_len X Z
     refine r_move rfl rfl ?_
     refine r_alloc TF.zero24 rfl (fun b13 => ?_)
     first | (refine r_storeT 0 rfl rfl rfl TF.sz24 ?_) | (refine r_storeT 1 rfl rfl rfl TF.sz24 ?_) | (refine r_storeT 2 rfl rfl rfl TF.sz24 ?_)
     refine awl_nil ?_
     refine x_then ?_
     refine awp_seq ?_
     refine awp_seq ?_
     refine awp_region ?_
     refine r_move rfl rfl ?_
     first | (refine r_load1b 0 rfl rfl rfl TF.agg24 rfl ?_) | (refine r_load1 rfl TF.agg24 rfl ?_) | (refine r_load1b 1 rfl rfl rfl TF.agg24 rfl ?_) | (refine r_load1b 2 rfl rfl rfl TF.agg24 rfl ?_)
     refine r_call0 hq rfl rfl (.cons (.ev rfl rfl) (.cons (.ev rfl rfl) .nil)) (Between_ok ta tb) rfl TF.en20 rfl (fun r hr => ?_)
     obtain rfl := hr
     refine awl_nil ?_
     refine x_then ?_
     refine awp_block ?_
     refine awp_rangeFuncS (fun pre wo => ∃ tc, Good tc (turnF Z X ((chg ta tb).take pre.length)) ∧ wo = [⟨b13, true, .box [encT tc]⟩, ⟨b11, true, .box [encT tb]⟩, ⟨b6, true, .box [.v (.bool false)]⟩]) (fun _ _ _ => False) [(6, .a (.v (.pointer (some ⟨b6, 0, none⟩)))), (9, .a (encT ta)), (11, .a (.v (.pointer (some ⟨b11, 0, none⟩)))), (13, .a (.v (.pointer (some ⟨b13, 0, none⟩))))] [true, true, true] hq rfl (Between1_ok ta tb hgta.wf hgtb.wf (good_ids hgta (x := X) (by omega)) (good_ids hgtb (x := Z) (by omega)) (two_keys hgta hgtb)) TF.en37 (fun pre x ⟨c, _, _, h⟩ => by subst h; rfl) rfl rfl rfl (by first | exact List.Sublist.refl _ | exact .cons_cons _ (.cons _ (.refl _)) | exact List.nil_sublist _ | exact .cons _ (.refl _) | exact .cons _ (.cons _ (.refl _)) | exact .cons _ (.cons _ (.cons _ (.refl _))) | exact .cons _ (.cons _ (.cons _ (.cons _ (.refl _)))) | exact .cons_cons _ (List.nil_sublist _)) (Slots.cons rfl (by first | exact .refl _ | exact .nilOwn _ _ | exact .nilSl _ | exact .ownSl _ _ _  | exact SV.le.of_eq (by simp)) (Slots.cons rfl (by first | exact .refl _ | exact .nilOwn _ _ | exact .nilSl _ | exact .ownSl _ _ _  | exact SV.le.of_eq (by simp)) (Slots.cons rfl (by first | exact .refl _ | exact .nilOwn _ _ | exact .nilSl _ | exact .ownSl _ _ _  | exact SV.le.of_eq (by simp)) (Slots.cons rfl (by first | exact .refl _ | exact .nilOwn _ _ | exact .nilSl _ | exact .ownSl _ _ _  | exact SV.le.of_eq (by simp)) Slots.nil)))) rfl rfl ⟨ta, hgta, rfl⟩ ?_ ?_ ?_
     ·
      intro lr pre x wo rec busy w0 C0 hq hj hax
      obtain ⟨tc, hgc, rfl⟩ := hj
      obtain ⟨y, hyt, hpre, rfl⟩ := hax
      have hpl : pre.length < (chg ta tb).length := (List.getElem?_eq_some_iff.1 hyt).1
      rw [hch] at hpl
      have htl := turn_len (Z := Z) ((chg ta tb).take pre.length) (X := X)
      rw [List.length_take] at htl
      have htn := good_len hgc (by omega)
      have hst := turnF_snoc (Z := Z) (X := X) hyt
      refine awpi_seq ?_
      refine awpi_region ?_
      refine awli_op (fun c h => (by cases h)) ?_
      refine r_alloc TF.zero47 rfl (fun b14 => ?_)
      refine awl_nil ⟨rfl, ?_⟩
      refine awli_op (fun c h => (by cases h)) ?_
      first | (refine r_store 0 rfl rfl rfl TF.sz47 rfl rfl rfl ?_) | (refine r_store 1 rfl rfl rfl TF.sz47 rfl rfl rfl ?_) | (refine r_store 2 rfl rfl rfl TF.sz47 rfl rfl rfl ?_) | (refine r_store 3 rfl rfl rfl TF.sz47 rfl rfl rfl ?_) | (refine r_store 4 rfl rfl rfl TF.sz47 rfl rfl rfl ?_)
      refine awl_nil ⟨rfl, ?_⟩
      refine awli_nil ?_
      refine x_then ?_
      refine awpi_region ?_
      refine awli_op (fun c h => (by cases h)) ?_
      refine r_assign rfl rfl ?_
      refine awl_nil ⟨rfl, ?_⟩
      refine awli_nil ?_
      refine ⟨rfl, 4, rfl, ?_⟩
      refine awpi_block ?_
      refine awpi_seq ?_
      refine awpi_seq ?_
      refine awpi_region ?_
      refine awli_op (fun c h => (by cases h)) ?_
      refine r_move rfl rfl ?_
      refine awl_nil ⟨rfl, ?_⟩
      refine awli_op (fun c h => (by cases h)) ?_
      refine r_not rfl rfl ?_
      refine awl_nil ⟨rfl, ?_⟩
      refine awli_nil ?_
      refine x_then ?_
      refine awpi_cond rfl (fun hc2 => ?_) (fun hc2 => ?_)
      ·
       have hcf : y.2 = false := by have := hc2; simp at this; exact this
       refine awpi_seq ?_
       refine awpi_region ?_
       refine awli_op (fun c h => (by cases h)) ?_
       first | (refine r_load1b 0 rfl rfl rfl TF.agg24 rfl ?_) | (refine r_load1 rfl TF.agg24 rfl ?_) | (refine r_load1b 1 rfl rfl rfl TF.agg24 rfl ?_) | (refine r_load1b 2 rfl rfl rfl TF.agg24 rfl ?_) | (refine r_load1b 3 rfl rfl rfl TF.agg24 rfl ?_) | (refine r_load1b 4 rfl rfl rfl TF.agg24 rfl ?_)
       refine awl_nil ⟨rfl, ?_⟩
       refine awli_op (fun c h => (by cases h)) ?_
       first | (refine r_loadAb 0 rfl rfl TF.agg47 TF.sz47 rfl rfl ?_) | (refine r_loadA rfl TF.agg47 TF.sz47 rfl rfl ?_) | (refine r_loadAb 1 rfl rfl TF.agg47 TF.sz47 rfl rfl ?_) | (refine r_loadAb 2 rfl rfl TF.agg47 TF.sz47 rfl rfl ?_) | (refine r_loadAb 3 rfl rfl TF.agg47 TF.sz47 rfl rfl ?_) | (refine r_loadAb 4 rfl rfl TF.agg47 TF.sz47 rfl rfl ?_)
       refine awl_nil ⟨rfl, ?_⟩
       refine awli_op (fun c h => (by cases h)) ?_
       refine r_call0 hq rfl rfl (.cons (.ev rfl rfl) (.cons (.ev rfl rfl) .nil)) (TDel_ok tc hgc.wf htn y.1) rfl TF.en21 rfl (fun r hr => ?_)
       obtain ⟨tq, htq, rfl⟩ := hr
       refine awl_nil ⟨rfl, ?_⟩
       refine awli_op (fun c h => (by cases h)) ?_
       first | (refine r_storeT 0 rfl rfl rfl TF.sz24 ?_) | (refine r_storeT 1 rfl rfl rfl TF.sz24 ?_) | (refine r_storeT 2 rfl rfl rfl TF.sz24 ?_) | (refine r_storeT 3 rfl rfl rfl TF.sz24 ?_) | (refine r_storeT 4 rfl rfl rfl TF.sz24 ?_)
       refine awl_nil ⟨rfl, ?_⟩
       refine awli_nil ?_
       refine x_then ?_
       refine awpi_exit ?_
       refine x_thenE ?_
       refine x_blockE ?_
       refine ⟨[⟨b13, true, .box [encT tq]⟩, ⟨b11, true, .box [encT tb]⟩, ⟨b6, true, .box [.v (.bool false)]⟩], .inl ⟨rfl, tq, by rw [List.length_append, List.length_singleton, hst, turnS, if_neg (by rw [hcf]; decide)]; exact good_del hgc htq, rfl⟩, ?_, by simp⟩
       · exact .cons _ (List.Sublist.refl _)
      ·
       have hct : y.2 = true := by have := hc2; simp at this; exact this
       obtain ⟨v, hv⟩ : ∃ v, look Z y.1 = some v := btw_came hgtb.st (by rw [← hch, ← hct]; exact List.mem_of_getElem? hyt)
       refine awpi_skip ?_
       refine x_then ?_
       refine awpi_seq ?_
       refine awpi_region ?_
       refine awli_op (fun c h => (by cases h)) ?_
       first | (refine r_load1b 0 rfl rfl rfl TF.agg24 rfl ?_) | (refine r_load1 rfl TF.agg24 rfl ?_) | (refine r_load1b 1 rfl rfl rfl TF.agg24 rfl ?_) | (refine r_load1b 2 rfl rfl rfl TF.agg24 rfl ?_) | (refine r_load1b 3 rfl rfl rfl TF.agg24 rfl ?_) | (refine r_load1b 4 rfl rfl rfl TF.agg24 rfl ?_)
       refine awl_nil ⟨rfl, ?_⟩
       refine awli_op (fun c h => (by cases h)) ?_
       first | (refine r_loadAb 0 rfl rfl TF.agg47 TF.sz47 rfl rfl ?_) | (refine r_loadA rfl TF.agg47 TF.sz47 rfl rfl ?_) | (refine r_loadAb 1 rfl rfl TF.agg47 TF.sz47 rfl rfl ?_) | (refine r_loadAb 2 rfl rfl TF.agg47 TF.sz47 rfl rfl ?_) | (refine r_loadAb 3 rfl rfl TF.agg47 TF.sz47 rfl rfl ?_) | (refine r_loadAb 4 rfl rfl TF.agg47 TF.sz47 rfl rfl ?_)
       refine awl_nil ⟨rfl, ?_⟩
       refine awli_op (fun c h => (by cases h)) ?_
       refine r_call0 hq rfl rfl (.cons (.ev rfl rfl) (.cons (.ev rfl rfl) .nil)) (Get_ok tb hgtb.wf y.1) rfl TF.en22 rfl (fun r hr => ?_)
       obtain rfl := hr
       rw [good_get hgtb, show ((look Z y.1).isSome) = true by rw [hv]; rfl]
       refine awl_nil ⟨rfl, ?_⟩
       refine awli_op (fun c h => (by cases h)) ?_
       refine r_move rfl rfl ?_
       refine awl_nil ⟨rfl, ?_⟩
       refine awli_op (fun c h => (by cases h)) ?_
       refine r_extract rfl rfl rfl ?_
       refine awl_nil ⟨rfl, ?_⟩
       refine awli_op (fun c h => (by cases h)) ?_
       refine r_extract rfl rfl rfl ?_
       refine awl_nil ⟨rfl, ?_⟩
       refine awli_op (fun c h => (by cases h)) ?_
       refine r_assign rfl rfl ?_
       refine awl_nil ⟨rfl, ?_⟩
       refine awli_op (fun c h => (by cases h)) ?_
       refine r_assign rfl rfl ?_
       refine awl_nil ⟨rfl, ?_⟩
       refine awli_nil ?_
       refine x_then ?_
       refine awpi_seq ?_
       refine awpi_seq ?_
       refine awpi_region ?_
       refine awli_op (fun c h => (by cases h)) ?_
       refine r_move rfl rfl ?_
       refine awl_nil ⟨rfl, ?_⟩
       refine awli_op (fun c h => (by cases h)) ?_
       refine r_not rfl rfl ?_
       refine awl_nil ⟨rfl, ?_⟩
       refine awli_nil ?_
       refine x_then ?_
       refine awpi_cond rfl (fun hc3 => ?_) (fun hc3 => ?_)
       ·
        exfalso; cases hc3
       ·
        refine awpi_skip ?_
        refine x_then ?_
        refine awpi_region ?_
        refine awli_op (fun c h => (by cases h)) ?_
        first | (refine r_load1b 0 rfl rfl rfl TF.agg24 rfl ?_) | (refine r_load1 rfl TF.agg24 rfl ?_) | (refine r_load1b 1 rfl rfl rfl TF.agg24 rfl ?_) | (refine r_load1b 2 rfl rfl rfl TF.agg24 rfl ?_) | (refine r_load1b 3 rfl rfl rfl TF.agg24 rfl ?_) | (refine r_load1b 4 rfl rfl rfl TF.agg24 rfl ?_)
        refine awl_nil ⟨rfl, ?_⟩
        refine awli_op (fun c h => (by cases h)) ?_
        first | (refine r_loadAb 0 rfl rfl TF.agg47 TF.sz47 rfl rfl ?_) | (refine r_loadA rfl TF.agg47 TF.sz47 rfl rfl ?_) | (refine r_loadAb 1 rfl rfl TF.agg47 TF.sz47 rfl rfl ?_) | (refine r_loadAb 2 rfl rfl TF.agg47 TF.sz47 rfl rfl ?_) | (refine r_loadAb 3 rfl rfl TF.agg47 TF.sz47 rfl rfl ?_) | (refine r_loadAb 4 rfl rfl TF.agg47 TF.sz47 rfl rfl ?_)
        refine awl_nil ⟨rfl, ?_⟩
        refine awli_op (fun c h => (by cases h)) ?_
        refine r_move rfl rfl ?_
        refine awl_nil ⟨rfl, ?_⟩
        refine awli_op (fun c h => (by cases h)) ?_
        refine r_call0 hq rfl rfl (.cons (.ev rfl rfl) (.cons (.ev rfl rfl) (.cons (.ev rfl rfl) .nil))) (TPut_ok tc hgc.wf htn y.1 ((look Z y.1).getD 0)) rfl TF.en23 rfl (fun r hr => ?_)
        obtain ⟨tq, htq, rfl⟩ := hr
        refine awl_nil ⟨rfl, ?_⟩
        refine awli_op (fun c h => (by cases h)) ?_
        first | (refine r_storeT 0 rfl rfl rfl TF.sz24 ?_) | (refine r_storeT 1 rfl rfl rfl TF.sz24 ?_) | (refine r_storeT 2 rfl rfl rfl TF.sz24 ?_) | (refine r_storeT 3 rfl rfl rfl TF.sz24 ?_) | (refine r_storeT 4 rfl rfl rfl TF.sz24 ?_)
        refine awl_nil ⟨rfl, ?_⟩
        refine awli_nil ?_
        refine x_block ?_
        refine ⟨[⟨b13, true, .box [encT tq]⟩, ⟨b11, true, .box [encT tb]⟩, ⟨b6, true, .box [.v (.bool false)]⟩], .inl ⟨rfl, tq, by rw [List.length_append, List.length_singleton, hst, turnS, if_pos hct]; exact good_put hgc htq, rfl⟩, ?_, by simp⟩
        · exact .cons _ (List.Sublist.refl _)
     ·
      intro xs wo' hG hJ
      obtain ⟨tc, hgc, rfl⟩ := hJ
      have hln : xs.length = (chg ta tb).length := by rw [hG, List.length_map]
      rw [hln, List.take_length, hch, turn_all hgta.st hgtb.st] at hgc
      refine x_block ?_
      refine x_then ?_
      refine awp_seq ?_
      refine awp_seq ?_
      refine awp_fact (φ := Coh tc tb) (fun C T a w hs => coh_of hgc.wf hgtb.wf (rels_one (show Rels C [encT tc] _ from (hs.objs ⟨b13, true, .box [encT tc]⟩ (mem_of_get (i := 0) rfl)).1.choose_spec.choose_spec.2)).choose_spec (rels_one (show Rels C [encT tb] _ from (hs.objs ⟨b11, true, .box [encT tb]⟩ (mem_of_get (i := 1) rfl)).1.choose_spec.choose_spec.2)).choose_spec) (fun hcc => ?_)
      have hct0 : chg tc tb = [] := by rw [chg_ref hcc hgc hgtb, btw_self hgtb.st]
      refine awp_drawS [83, 84, 85, 86, 87, 88, 89, 90, 91] [_, _, _, _, _, _, _, _, _] [] [] TF.mixed rfl rfl rfl ⟨⟨⟨⟨⟨⟨⟨⟨⟨trivial
       , ⟨_, rfl, fun sl hd hr ho => by
         first | (refine r_load1b 0 (hr 13 _ rfl rfl rfl) rfl rfl TF.agg24 rfl ?_) | (refine r_load1 (hr 13 _ rfl rfl rfl) TF.agg24 rfl ?_) | (refine r_load1b 1 (hr 13 _ rfl rfl rfl) rfl rfl TF.agg24 rfl ?_) | (refine r_load1b 2 (hr 13 _ rfl rfl rfl) rfl rfl TF.agg24 rfl ?_)
         exact awl_nil ⟨rfl, post_put⟩⟩⟩
       , ⟨_, rfl, fun sl hd hr ho => by
         first | (refine r_load1b 0 (hr 11 _ rfl rfl rfl) rfl rfl TF.agg24 rfl ?_) | (refine r_load1 (hr 11 _ rfl rfl rfl) TF.agg24 rfl ?_) | (refine r_load1b 1 (hr 11 _ rfl rfl rfl) rfl rfl TF.agg24 rfl ?_) | (refine r_load1b 2 (hr 11 _ rfl rfl rfl) rfl rfl TF.agg24 rfl ?_)
         exact awl_nil ⟨rfl, post_put⟩⟩⟩
       , ⟨_, rfl, fun sl hd hr ho => by
         refine r_call0 hq rfl rfl (.cons (.ev (hd 0 _ rfl rfl rfl) rfl) (.cons (.ev (hd 1 _ rfl rfl rfl) rfl) (.cons (.ev rfl rfl) .nil))) (told_ok tc tb hgc.wf hgtb.wf (good_ids hgc (x := Z) (by omega)) (good_ids hgtb (x := Z) (by omega)) (two_keys hgc hgtb) 1 (by omega) (by omega)) rfl TF.en16 rfl (fun r hr => ?_)
         obtain rfl := hr
         exact awl_nil ⟨rfl, post_put⟩⟩⟩
       , ⟨_, rfl, fun sl hd hr ho => by
         first | (refine r_lenS (hd 2 _ rfl rfl rfl) rfl TF.sl29 rfl ?_) | (refine r_lenNil (hd 2 _ rfl rfl rfl) TF.sl29 rfl ?_) | (refine r_lenV (hd 2 _ rfl rfl rfl) TF.sl29 rfl ?_)
         exact awl_nil ⟨rfl, post_put⟩⟩⟩
       , ⟨_, rfl, fun sl hd hr ho => by
         refine r_cmp (hd 3 _ rfl rfl rfl) rfl rfl rfl ?_
         exact awl_nil ⟨rfl, post_put⟩⟩⟩
       , ⟨_, rfl, fun sl hd hr ho => by
         refine r_move (hd 4 _ rfl rfl rfl) rfl ?_
         exact awl_nil ⟨rfl, post_put⟩⟩⟩
       , ⟨_, rfl, fun sl hd hr ho => by
         refine g_run rfl (hd 5 _ rfl rfl rfl) (by rw [hct0]; rfl) ?_
         first | (refine r_load1b 0 (hr 13 _ rfl rfl rfl) rfl rfl TF.agg24 rfl ?_) | (refine r_load1 (hr 13 _ rfl rfl rfl) TF.agg24 rfl ?_) | (refine r_load1b 1 (hr 13 _ rfl rfl rfl) rfl rfl TF.agg24 rfl ?_) | (refine r_load1b 2 (hr 13 _ rfl rfl rfl) rfl rfl TF.agg24 rfl ?_)
         exact awl_nil ⟨rfl, post_put⟩⟩⟩
       , ⟨_, rfl, fun sl hd hr ho => by
         refine g_run rfl (hd 5 _ rfl rfl rfl) (by rw [hct0]; rfl) ?_
         refine r_call0 hq rfl rfl (.cons (.ev (hd 6 _ rfl rfl rfl) rfl) .nil) (Len_ok tc) rfl TF.en24 rfl (fun r hr => ?_)
         obtain rfl := hr
         exact awl_nil ⟨rfl, post_put⟩⟩⟩
       , ⟨_, rfl, fun sl hd hr ho => by
         refine g_run rfl (hd 5 _ rfl rfl rfl) (by rw [hct0]; rfl) ?_
         first | (refine r_load1b 0 (hr 11 _ rfl rfl rfl) rfl rfl TF.agg24 rfl ?_) | (refine r_load1 (hr 11 _ rfl rfl rfl) TF.agg24 rfl ?_) | (refine r_load1b 1 (hr 11 _ rfl rfl rfl) rfl rfl TF.agg24 rfl ?_) | (refine r_load1b 2 (hr 11 _ rfl rfl rfl) rfl rfl TF.agg24 rfl ?_)
         exact awl_nil ⟨rfl, post_put⟩⟩⟩
       (by rfl) ?_
      refine g_run rfl rfl (by rw [hct0]; rfl) ?_
      refine r_call0 hq rfl rfl (.cons (.ev rfl rfl) .nil) (Len_ok tb) rfl TF.en24 rfl (fun r hr => ?_)
      obtain rfl := hr
      refine g_run rfl rfl (by rw [hct0]; rfl) ?_
      refine r_cmp rfl rfl rfl rfl ?_
      refine r_pickF rfl (by rw [hct0]; rfl) rfl rfl ?_
      refine awl_nil ?_
      refine x_then ?_
      refine awp_cond rfl (fun hc4 => ?_) (fun hc4 => ?_)
      ·
       exfalso; rw [hgc.ln, hgtb.ln] at hc4; simp at hc4
      ·
       refine awp_skip ?_
       refine x_then ?_
       refine awp_seq ?_
       refine awp_fact (φ := Coh tb ta) (fun C T a w hs => coh_of hgtb.wf hgta.wf (rels_one (show Rels C [encT tb] _ from (hs.objs ⟨b11, true, .box [encT tb]⟩ (mem_of_get (i := 1) rfl)).1.choose_spec.choose_spec.2)).choose_spec (hs.slots 9 (.a (encT ta)) rfl)) (fun hcb => ?_)
       have hcd := chg_ref hcb hgtb hgta
       have hle := btw_len_eq hgta.st hgtb.st
       refine awp_drawS [95, 96, 97, 98, 99] [_, _, _, _, _] [] [] TF.mixed rfl rfl rfl ⟨⟨⟨⟨⟨trivial
        , ⟨_, rfl, fun sl hd hr ho => by
          refine r_move (hr 9 _ rfl rfl rfl) rfl ?_
          exact awl_nil ⟨rfl, post_put⟩⟩⟩
        , ⟨_, rfl, fun sl hd hr ho => by
          first | (refine r_load1b 0 (hr 11 _ rfl rfl rfl) rfl rfl TF.agg24 rfl ?_) | (refine r_load1 (hr 11 _ rfl rfl rfl) TF.agg24 rfl ?_) | (refine r_load1b 1 (hr 11 _ rfl rfl rfl) rfl rfl TF.agg24 rfl ?_) | (refine r_load1b 2 (hr 11 _ rfl rfl rfl) rfl rfl TF.agg24 rfl ?_)
          exact awl_nil ⟨rfl, post_put⟩⟩⟩
        , ⟨_, rfl, fun sl hd hr ho => by
          refine r_call0 hq rfl rfl (.cons (.ev (hd 0 _ rfl rfl rfl) rfl) (.cons (.ev (hd 1 _ rfl rfl rfl) rfl) (.cons (.ev rfl rfl) .nil))) (told_ok ta tb hgta.wf hgtb.wf (good_ids hgta (x := X) (by omega)) (good_ids hgtb (x := Z) (by omega)) (two_keys hgta hgtb) 1000 (by omega) (by omega)) rfl TF.en16 rfl (fun r hr => ?_)
          obtain rfl := hr
          exact awl_nil ⟨rfl, post_put⟩⟩⟩
        , ⟨_, rfl, fun sl hd hr ho => by
          first | (refine r_load1b 0 (hr 11 _ rfl rfl rfl) rfl rfl TF.agg24 rfl ?_) | (refine r_load1 (hr 11 _ rfl rfl rfl) TF.agg24 rfl ?_) | (refine r_load1b 1 (hr 11 _ rfl rfl rfl) rfl rfl TF.agg24 rfl ?_) | (refine r_load1b 2 (hr 11 _ rfl rfl rfl) rfl rfl TF.agg24 rfl ?_)
          exact awl_nil ⟨rfl, post_put⟩⟩⟩
        , ⟨_, rfl, fun sl hd hr ho => by
          refine r_move (hr 9 _ rfl rfl rfl) rfl ?_
          exact awl_nil ⟨rfl, post_put⟩⟩⟩
        (by rfl) ?_
       refine r_call0 hq rfl rfl (.cons (.ev rfl rfl) (.cons (.ev rfl rfl) (.cons (.ev rfl rfl) .nil))) (told_ok tb ta hgtb.wf hgta.wf (good_ids hgtb (x := Z) (by omega)) (good_ids hgta (x := X) (by omega)) (two_keys hgtb hgta) 1000 (by omega) (by omega)) rfl TF.en16 rfl (fun r hr => ?_)
       obtain rfl := hr
       refine r_assign rfl rfl ?_
       refine r_assign rfl rfl ?_
       refine awl_nil ?_
       refine x_then ?_
       refine awp_seq ?_
       refine awp_seq ?_
       refine awp_region ?_
       generalize hP : ((chg ta tb).take (1000 : Int).toNat) = P
       generalize hQ : ((chg tb ta).take (1000 : Int).toNat) = Q
       have hP' : P = refBtw X Z := by rw [← hP, hch]; exact List.take_of_length_le (by show _ ≤ 1000; omega)
       have hQ' : Q = refBtw Z X := by rw [← hQ, hcd]; exact List.take_of_length_le (by show _ ≤ 1000; omega)
       have hPQ : P.length = Q.length := by rw [hP', hQ', hle]
       have hPl : P.length ≤ 1000 := by rw [hP']; omega
       refine r_move rfl rfl ?_
       first | (refine r_lenS rfl rfl TF.sl29 rfl ?_) | (refine r_lenNil rfl TF.sl29 rfl ?_) | (refine r_lenV rfl TF.sl29 rfl ?_)
       refine r_move rfl rfl ?_
       first | (refine r_lenS rfl rfl TF.sl29 rfl ?_) | (refine r_lenNil rfl TF.sl29 rfl ?_) | (refine r_lenV rfl TF.sl29 rfl ?_)
       refine r_cmp rfl rfl rfl rfl ?_
       refine awl_nil ?_
       refine x_then ?_
       refine awp_cond rfl (fun hc5 => ?_) (fun hc5 => ?_)
       ·
        exfalso; simp [hPQ] at hc5
       ·
        refine awp_skip ?_
        refine x_then ?_
        refine awp_seq ?_
        refine awp_region ?_
        refine r_makeMap (ek := ekC) (ev := boolA) [] rfl rfl (fun b106 => ?_)
        refine r_assign rfl rfl ?_
        refine awl_nil ?_
        refine x_then ?_
        refine awp_seq ?_
        refine awp_seq ?_
        refine awp_region ?_
        refine r_move rfl rfl ?_
        first | (refine r_lenS rfl rfl TF.sl29 rfl ?_) | (refine r_lenNil rfl TF.sl29 rfl ?_) | (refine r_lenV rfl TF.sl29 rfl ?_)
        refine r_move rfl rfl ?_
        refine awl_nil ?_
        refine x_then ?_
        refine awp_block ?_
        refine awp_loop (fun nn0 S => ∃ i : Nat, S = ⟨132, [(6, .a (.v (.pointer (some ⟨b6, 0, none⟩)))), (19, .a (.sl 5 (Q.map chC))), (20, .a (.v (.map (some b106)))), (107, .a (.sl 5 (P.map chC))), (108, .a (.v (.int .i64 (((P.map chC).length : Nat))))), (109, .a (.v (.int .i64 ((i : Int)))))], [⟨b106, true, .map (encM ekC boolA (setC ((P.map flipC).take i)))⟩, ⟨b6, true, .box [.v (.bool false)]⟩]⟩ ∧ nn0 = P.length - i ∧ (i ≤ P.length)) (P.length - (0)) ⟨132, [(6, .a (.v (.pointer (some ⟨b6, 0, none⟩)))), (19, .a (.sl 5 (Q.map chC))), (20, .a (.v (.map (some b106)))), (107, .a (.sl 5 (P.map chC))), (108, .a (.v (.int .i64 (((P.map chC).length : Nat))))), (109, .a (.v (.int .i64 (((0) : Int)))))], [⟨b106, true, .map (encM ekC boolA (setC ((P.map flipC).take (0))))⟩, ⟨b6, true, .box [.v (.bool false)]⟩]⟩ ⟨rfl, (Slots.cons rfl (by first | exact .refl _ | exact .nilOwn _ _ | exact .nilSl _ | exact .ownSl _ _ _  | exact SV.le.of_eq (by simp)) (Slots.cons rfl (by first | exact .refl _ | exact .nilOwn _ _ | exact .nilSl _ | exact .ownSl _ _ _  | exact SV.le.of_eq (by simp)) (Slots.cons rfl (by first | exact .refl _ | exact .nilOwn _ _ | exact .nilSl _ | exact .ownSl _ _ _  | exact SV.le.of_eq (by simp)) (Slots.cons rfl (by first | exact .refl _ | exact .nilOwn _ _ | exact .nilSl _ | exact .ownSl _ _ _  | exact SV.le.of_eq (by simp)) (Slots.cons rfl (by first | exact .refl _ | exact .nilOwn _ _ | exact .nilSl _ | exact .ownSl _ _ _  | exact SV.le.of_eq (by simp)) (Slots.cons rfl (by first | exact .refl _ | exact .nilOwn _ _ | exact .nilSl _ | exact .ownSl _ _ _  | exact SV.le.of_eq (by simp)) Slots.nil)))))), (.cons_cons _ (.cons _ (.cons _ (.refl _))))⟩ ⟨0, rfl, rfl, Nat.zero_le _⟩ ?_
        rintro nn0 _ ⟨i, rfl, rfl, hi⟩
        refine awp_seq ?_
        refine awp_region ?_
        refine r_cmp rfl rfl rfl rfl ?_
        refine awl_nil ?_
        refine x_then ?_
        refine awp_seq ?_
        refine awp_cond rfl (fun hc6 => ?_) (fun hc6 => ?_)
        ·
         have hltz : i < P.length := by have := of_decide_eq_true hc6; simpa using this
         obtain ⟨z, hz⟩ := get_lt hltz
         refine awp_skip ?_
         refine x_then ?_
         refine awp_seq ?_
         refine awp_block ?_
         refine awp_seq ?_
         refine awp_region ?_
         refine r_index rfl rfl rfl TF.sl29 TF.sz55 (by omega) (get_map hz) rfl ?_
         first | (refine r_loadAb 0 rfl rfl TF.agg55 TF.sz55 rfl rfl ?_) | (refine r_loadA rfl TF.agg55 TF.sz55 rfl rfl ?_) | (refine r_loadAb 1 rfl rfl TF.agg55 TF.sz55 rfl rfl ?_)
         refine r_alloc TF.zero55 rfl (fun b22 => ?_)
         first | (refine r_store 0 rfl rfl rfl TF.sz55 rfl rfl rfl ?_) | (refine r_store 1 rfl rfl rfl TF.sz55 rfl rfl rfl ?_) | (refine r_store 2 rfl rfl rfl TF.sz55 rfl rfl rfl ?_)
         refine awl_nil ?_
         refine x_then ?_
         refine awp_region ?_
         refine r_move rfl rfl ?_
         first | (refine r_fieldpt rfl TF.f55_0 TF.sz47 rfl ?_) | (refine r_fieldcp rfl TF.f55_0 TF.sz47 rfl ?_) | (refine r_fieldb rfl TF.f55_0 TF.sz47 rfl ?_)
         first | (refine r_loadAb 0 rfl rfl TF.agg47 TF.sz47 rfl rfl ?_) | (refine r_loadA rfl TF.agg47 TF.sz47 rfl rfl ?_) | (refine r_loadAb 1 rfl rfl TF.agg47 TF.sz47 rfl rfl ?_) | (refine r_loadAb 2 rfl rfl TF.agg47 TF.sz47 rfl rfl ?_)
         first | (refine r_fieldpt rfl TF.f55_1 TF.sz4 rfl ?_) | (refine r_fieldcp rfl TF.f55_1 TF.sz4 rfl ?_) | (refine r_fieldb rfl TF.f55_1 TF.sz4 rfl ?_)
         first | (refine r_load1b 0 rfl rfl rfl TF.agg4 rfl ?_) | (refine r_load1 rfl TF.agg4 rfl ?_) | (refine r_load1b 1 rfl rfl rfl TF.agg4 rfl ?_) | (refine r_load1b 2 rfl rfl rfl TF.agg4 rfl ?_)
         refine r_not rfl rfl ?_
         refine r_build (parts := [(0, .tmp 115), (1, .tmp 118)]) rfl TF.pl55 TF.zero55 rfl rfl rfl ?_
         first | (refine r_mapUpdateK 0 keyC (ev := boolA) (k := (flipC z)) _ rfl rfl rfl (isVal_ch (flipC z)) rfl rfl TF.map53 ?_) | (refine r_mapUpdateK 1 keyC (ev := boolA) (k := (flipC z)) _ rfl rfl rfl (isVal_ch (flipC z)) rfl rfl TF.map53 ?_) | (refine r_mapUpdateK 2 keyC (ev := boolA) (k := (flipC z)) _ rfl rfl rfl (isVal_ch (flipC z)) rfl rfl TF.map53 ?_)
         refine awl_nil ?_
         refine x_block ?_
         refine x_then ?_
         refine awp_region ?_
         refine r_ari _ rfl rfl rfl (wrap_id (by first | omega | (simp; omega))) rfl ?_
         refine r_move rfl rfl ?_
         refine awl_nil ?_
         refine x_then ?_
         refine ⟨P.length - (i + 1), ⟨132, [(6, .a (.v (.pointer (some ⟨b6, 0, none⟩)))), (19, .a (.sl 5 (Q.map chC))), (20, .a (.v (.map (some b106)))), (107, .a (.sl 5 (P.map chC))), (108, .a (.v (.int .i64 (((P.map chC).length : Nat))))), (109, .a (.v (.int .i64 (((i + 1) : Int)))))], [⟨b106, true, .map (encM ekC boolA (setC ((P.map flipC).take (i + 1))))⟩, ⟨b6, true, .box [.v (.bool false)]⟩]⟩, ⟨rfl, (Slots.cons rfl (by first | exact .refl _ | exact .nilOwn _ _ | exact .nilSl _ | exact .ownSl _ _ _  | exact SV.le.of_eq (by simp)) (Slots.cons rfl (by first | exact .refl _ | exact .nilOwn _ _ | exact .nilSl _ | exact .ownSl _ _ _  | exact SV.le.of_eq (by simp)) (Slots.cons rfl (by first | exact .refl _ | exact .nilOwn _ _ | exact .nilSl _ | exact .ownSl _ _ _  | exact SV.le.of_eq (by simp)) (Slots.cons rfl (by first | exact .refl _ | exact .nilOwn _ _ | exact .nilSl _ | exact .ownSl _ _ _  | exact SV.le.of_eq (by simp)) (Slots.cons rfl (by first | exact .refl _ | exact .nilOwn _ _ | exact .nilSl _ | exact .ownSl _ _ _  | exact SV.le.of_eq (by simp)) (Slots.cons rfl (by first | exact .refl _ | exact .nilOwn _ _ | exact .nilSl _ | exact .ownSl _ _ _  | exact SV.le.of_eq (by simp)) Slots.nil)))))), (by rw [setC_snoc (get_map (f := flipC) hz)]; exact .cons _ (.refl _))⟩, (by omega), ⟨i + 1, rfl, rfl, (by omega)⟩⟩
        ·
         have hge : P.length ≤ i := by have := of_decide_eq_false hc6; simp at this; omega
         obtain rfl : i = P.length := by omega
         rw [show (P.map flipC).take P.length = P.map flipC from List.take_of_length_le (by simp)]
         refine awp_exit ?_
         refine x_thenE ?_
         refine x_thenE ?_
         refine x_blockE ?_
         refine x_then ?_
         refine awp_seq ?_
         refine awp_seq ?_
         refine awp_region ?_
         refine r_move rfl rfl ?_
         first | (refine r_lenS rfl rfl TF.sl29 rfl ?_) | (refine r_lenNil rfl TF.sl29 rfl ?_) | (refine r_lenV rfl TF.sl29 rfl ?_)
         refine r_move rfl rfl ?_
         refine awl_nil ?_
         refine x_then ?_
         refine awp_block ?_
         refine awp_loop (fun nn0 S => ∃ i : Nat, S = ⟨132, [(6, .a (.v (.pointer (some ⟨b6, 0, none⟩)))), (20, .a (.v (.map (some b106)))), (121, .a (.sl 5 (Q.map chC))), (122, .a (.v (.int .i64 (((Q.map chC).length : Nat))))), (123, .a (.v (.int .i64 ((i : Int)))))], [⟨b106, true, .map (encM ekC boolA (setC (P.map flipC)))⟩, ⟨b6, true, .box [.v (.bool false)]⟩]⟩ ∧ nn0 = Q.length - i ∧ (i ≤ Q.length)) (Q.length - (0)) ⟨132, [(6, .a (.v (.pointer (some ⟨b6, 0, none⟩)))), (20, .a (.v (.map (some b106)))), (121, .a (.sl 5 (Q.map chC))), (122, .a (.v (.int .i64 (((Q.map chC).length : Nat))))), (123, .a (.v (.int .i64 (((0) : Int)))))], [⟨b106, true, .map (encM ekC boolA (setC (P.map flipC)))⟩, ⟨b6, true, .box [.v (.bool false)]⟩]⟩ ⟨rfl, (Slots.cons rfl (by first | exact .refl _ | exact .nilOwn _ _ | exact .nilSl _ | exact .ownSl _ _ _  | exact SV.le.of_eq (by simp)) (Slots.cons rfl (by first | exact .refl _ | exact .nilOwn _ _ | exact .nilSl _ | exact .ownSl _ _ _  | exact SV.le.of_eq (by simp)) (Slots.cons rfl (by first | exact .refl _ | exact .nilOwn _ _ | exact .nilSl _ | exact .ownSl _ _ _  | exact SV.le.of_eq (by simp)) (Slots.cons rfl (by first | exact .refl _ | exact .nilOwn _ _ | exact .nilSl _ | exact .ownSl _ _ _  | exact SV.le.of_eq (by simp)) (Slots.cons rfl (by first | exact .refl _ | exact .nilOwn _ _ | exact .nilSl _ | exact .ownSl _ _ _  | exact SV.le.of_eq (by simp)) Slots.nil))))), (by first | exact List.Sublist.refl _ | exact .cons_cons _ (.cons _ (.refl _)) | exact List.nil_sublist _ | exact .cons _ (.refl _) | exact .cons _ (.cons _ (.refl _)) | exact .cons _ (.cons _ (.cons _ (.refl _))) | exact .cons _ (.cons _ (.cons _ (.cons _ (.refl _)))) | exact .cons_cons _ (List.nil_sublist _))⟩ ⟨0, rfl, rfl, Nat.zero_le _⟩ ?_
         rintro nn0 _ ⟨i, rfl, rfl, hi⟩
         refine awp_seq ?_
         refine awp_region ?_
         refine r_cmp rfl rfl rfl rfl ?_
         refine awl_nil ?_
         refine x_then ?_
         refine awp_seq ?_
         refine awp_cond rfl (fun hc7 => ?_) (fun hc7 => ?_)
         ·
          have hltz : i < Q.length := by have := of_decide_eq_true hc7; simpa using this
          obtain ⟨z, hz⟩ := get_lt hltz
          have hzin : z ∈ P.map flipC := List.mem_map.2 ⟨flipC z, by rw [hP', btw_flip, ← hQ']; exact List.mem_of_getElem? hz, flip_flip z⟩
          refine awp_skip ?_
          refine x_then ?_
          refine awp_seq ?_
          refine awp_block ?_
          refine awp_seq ?_
          refine awp_region ?_
          refine r_index rfl rfl rfl TF.sl29 TF.sz55 (by omega) (get_map hz) rfl ?_
          first | (refine r_loadAb 0 rfl rfl TF.agg55 TF.sz55 rfl rfl ?_) | (refine r_loadA rfl TF.agg55 TF.sz55 rfl rfl ?_) | (refine r_loadAb 1 rfl rfl TF.agg55 TF.sz55 rfl rfl ?_)
          refine r_alloc TF.zero55 rfl (fun b24 => ?_)
          first | (refine r_store 0 rfl rfl rfl TF.sz55 rfl rfl rfl ?_) | (refine r_store 1 rfl rfl rfl TF.sz55 rfl rfl rfl ?_) | (refine r_store 2 rfl rfl rfl TF.sz55 rfl rfl rfl ?_)
          refine awl_nil ?_
          refine x_then ?_
          refine awp_seq ?_
          refine awp_region ?_
          refine r_move rfl rfl ?_
          first | (refine r_loadAb 0 rfl rfl TF.agg55 TF.sz55 rfl rfl ?_) | (refine r_loadA rfl TF.agg55 TF.sz55 rfl rfl ?_) | (refine r_loadAb 1 rfl rfl TF.agg55 TF.sz55 rfl rfl ?_) | (refine r_loadAb 2 rfl rfl TF.agg55 TF.sz55 rfl rfl ?_)
          first | (refine r_lookupK 0 keyC (ev := boolA) (k := z) false rfl rfl rfl (isVal_ch z) TF.map53 TF.zav4 rfl ?_) | (refine r_lookupK 1 keyC (ev := boolA) (k := z) false rfl rfl rfl (isVal_ch z) TF.map53 TF.zav4 rfl ?_) | (refine r_lookupK 2 keyC (ev := boolA) (k := z) false rfl rfl rfl (isVal_ch z) TF.map53 TF.zav4 rfl ?_)
          refine r_not rfl rfl ?_
          refine awl_nil ?_
          refine x_then ?_
          refine awp_cond rfl (fun hc8 => ?_) (fun hc8 => ?_)
          ·
           exfalso; rw [setC_get, decide_eq_true hzin] at hc8; cases hc8
          ·
           refine awp_skip ?_
           refine x_block ?_
           refine x_then ?_
           refine awp_region ?_
           refine r_ari _ rfl rfl rfl (wrap_id (by first | omega | (simp; omega))) rfl ?_
           refine r_move rfl rfl ?_
           refine awl_nil ?_
           refine x_then ?_
           refine ⟨Q.length - (i + 1), ⟨132, [(6, .a (.v (.pointer (some ⟨b6, 0, none⟩)))), (20, .a (.v (.map (some b106)))), (121, .a (.sl 5 (Q.map chC))), (122, .a (.v (.int .i64 (((Q.map chC).length : Nat))))), (123, .a (.v (.int .i64 (((i + 1) : Int)))))], [⟨b106, true, .map (encM ekC boolA (setC (P.map flipC)))⟩, ⟨b6, true, .box [.v (.bool false)]⟩]⟩, ⟨rfl, (Slots.cons rfl (by first | exact .refl _ | exact .nilOwn _ _ | exact .nilSl _ | exact .ownSl _ _ _  | exact SV.le.of_eq (by simp)) (Slots.cons rfl (by first | exact .refl _ | exact .nilOwn _ _ | exact .nilSl _ | exact .ownSl _ _ _  | exact SV.le.of_eq (by simp)) (Slots.cons rfl (by first | exact .refl _ | exact .nilOwn _ _ | exact .nilSl _ | exact .ownSl _ _ _  | exact SV.le.of_eq (by simp)) (Slots.cons rfl (by first | exact .refl _ | exact .nilOwn _ _ | exact .nilSl _ | exact .ownSl _ _ _  | exact SV.le.of_eq (by simp)) (Slots.cons rfl (by first | exact .refl _ | exact .nilOwn _ _ | exact .nilSl _ | exact .ownSl _ _ _  | exact SV.le.of_eq (by simp)) Slots.nil))))), (by first | exact List.Sublist.refl _ | exact .cons_cons _ (.cons _ (.refl _)) | exact List.nil_sublist _ | exact .cons _ (.refl _) | exact .cons _ (.cons _ (.refl _)) | exact .cons _ (.cons _ (.cons _ (.refl _))) | exact .cons _ (.cons _ (.cons _ (.cons _ (.refl _)))) | exact .cons_cons _ (List.nil_sublist _))⟩, (by omega), ⟨i + 1, rfl, rfl, (by omega)⟩⟩
         ·
          refine awp_exit ?_
          refine x_thenE ?_
          refine x_thenE ?_
          refine x_blockE ?_
          refine x_then ?_
          refine awp_seq ?_
          refine awp_region ?_
          first | (refine r_store 0 rfl rfl rfl TF.sz4 rfl rfl rfl ?_) | (refine r_store 1 rfl rfl rfl TF.sz4 rfl rfl rfl ?_)
          refine awl_nil ?_
          refine x_then ?_
          refine awp_ret ?_
          exact ⟨(.inl rfl), _, [], (by first | exact .one 0 rfl rfl TF.agg4 | exact .one 1 rfl rfl TF.agg4 | exact .one 2 rfl rfl TF.agg4 | exact .one 3 rfl rfl TF.agg4 | exact .one 4 rfl rfl TF.agg4 | exact .one 5 rfl rfl TF.agg4), ⟨rfl, rfl⟩, (List.nil_sublist _), (by simp)⟩
     ·
      intro c xs wo' hX
      exact hX.elim
end Go.Proofs.Ytljgdbgcleibjaa.A

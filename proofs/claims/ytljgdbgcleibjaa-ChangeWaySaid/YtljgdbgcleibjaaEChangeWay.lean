import Derived.WalkKit
import Derived.Below
import Derived.Laws.Rows
import Derived.Laws.CopyRow
import Derived.Laws.AppendOwn
import Derived.RangeFuncLeaves
import Derived.RangeFuncSeq
import Derived.RangeFuncCalls
import Derived.MapKept
import Derived.Orders
import Derived.Laws.IdiomStrings
import Derived.Laws.BytesArg
import Derived.Shelf.SlIter.Nil
import Derived.RangeFuncBound
import Derived.Maps.RangeRun
import Derived.DeepKeys3
import Derived.Laws.StructEq
import Derived.Shelf.SlSortCmp.NoneTotal
import Derived.ChangeKeysEq
import Derived.Laws.MakeOwn
import Derived.ChangeArms
import Derived.ChangeOld
import Derived.Laws.DeepStrings4
import Derived.OpenShut
import Derived.Test.YtljgdbgcleibjaaProg
import Derived.KernelRfl
import Derived.OrdersIn
import Derived.Lib.AppendZeros
import Derived.Lib.AppendZerosOnto
import Derived.Lib.Overlaps
import Derived.Deep.AppendSrc
import Derived.Shelf.SlGeneric
import Derived.Ground.SlsfProg
import Derived.Test.YtljgdbgcleibjaaM7
namespace Go.Proofs.Ytljgdbgcleibjaa.A
open Go Go.RowKit
set_option linter.unusedVariables false
set_option linter.unusedSimpArgs false
set_option linter.unusedSectionVars false
set_option linter.unnecessarySimpa false
variable {P : Program} {w0 : Base} {C0 C : CS} {T : TS} {S S' : AState} {a : Act} {w : World} {ops : Array Oper} {rest : List Oper} {o : Oper} {Q : Exit → AState → Prop}
variable {t : Nat} {ty ty' : TypeId} {pos : String} {aft : Array Edge}
section
variable {K α : Type} [DecidableEq K]
def mget : List (K × α) → K → Option α
  | [], _ => none
  | (x, v) :: r, k => if x = k then some v else mget r k
def mset : List (K × α) → K → α → List (K × α)
  | [], k, v => [(k, v)]
  | (x, u) :: r, k, v => if x = k then (k, v) :: r else (x, u) :: mset r k v
theorem mfind_get : ∀ (m : List (K × α)) (k : K), mget m k = (mfind (m.map (·.1)) k).bind fun i => (m[i]?).map (·.2)
  | [], k => rfl
  | (x, v) :: r, k => by
    unfold mget
    by_cases h : x = k
    · simp [mfind, h]
    · simp only [h, if_false, List.map_cons, mfind, mfind_get r k]
      cases mfind (r.map (·.1)) k <;> simp
theorem mfind_set_none : ∀ (m : List (K × α)) (k : K) (v : α), mfind (m.map (·.1)) k = none → mset m k v = m ++ [(k, v)]
  | [], k, v, _ => rfl
  | (x, u) :: r, k, v, h => by
    by_cases hx : x = k
    · simp [mfind, hx] at h
    · simp [mfind, hx] at h
      simp [mset, hx, mfind_set_none r k v (by simpa using h)]
theorem mfind_set_some : ∀ (m : List (K × α)) (k : K) (v : α) (i : Nat), mfind (m.map (·.1)) k = some i → i < m.length ∧ (m.map (·.1))[i]? = some k ∧ mset m k v = m.set i (k, v)
  | [], k, v, i, h => by simp [mfind] at h
  | (x, u) :: r, k, v, i, h => by
    by_cases hx : x = k
    · simp [mfind, hx] at h
      subst h; subst hx; simp [mset]
    · cases hr : mfind (r.map (·.1)) k with
      | none => simp [mfind, hx, hr] at h
      | some j =>
        simp [mfind, hx, hr] at h
        subst h
        obtain ⟨h1, h2, h3⟩ := mfind_set_some r k v j hr
        exact ⟨by simp; omega, by simpa using h2, by simp [mset, hx, h3]⟩
end
section
variable {K α : Type} [DecidableEq K] {ek : K → Value} {ev : α → AV} {kt et : TypeId}
def encM (ek : K → Value) (ev : α → AV) (m : List (K × α)) : List (Value × AV) := m.map fun p => (ek p.1, ev p.2)
theorem map_ents {b : Nat} {m : List (K × α)} (h : ObjRel C b (.map (encM ek ev m)) w) :
    ∃ ents clock, w.heap[b]? = some (.map ents clock) ∧ ents.toList.map (·.key) = (m.map (·.1)).map ek ∧ Rels C (m.map fun p => ev p.2) (ents.toList.map (·.val))
      ∧ (ents.toList.map (·.born)).Pairwise (· < ·) ∧ ∀ e ∈ ents.toList, e.born < clock := by
  obtain ⟨ents, clock, h1, h2, h3, h4⟩ := h
  exact ⟨ents, clock, h1, by rw [h2, encM]; simp, by have := h3; rw [encM, List.map_map] at this; exact this, h4⟩
theorem run_look (KE : KeyEnc P kt ek) {mt : TypeId} (hmt : mapT P mt = some (kt, et)) {b : Nat} {m : List (K × α)} (h : ObjRel C b (.map (encM ek ev m)) w) (k : K) (z : α) (hz : ZeroAV P et (ev z)) :
    ∃ u, Rel C (ev ((mget m k).getD z)) u ∧ (Instr.lookup mt (.map (some b)) (ek k) false).run P w = .ok u w ∧ (Instr.lookup mt (.map (some b)) (ek k) true).run P w = .ok (.tuple #[u, .bool (mget m k).isSome]) w := by
  obtain ⟨ents, clock, h1, h2, h3, _⟩ := map_ents h
  have hf := KE.find ents.toList (m.map (·.1)) k w h2
  have hc := fun e => KE.check e k w
  rw [mfind_get m k]
  cases hm : mfind (m.map (·.1)) k with
  | none =>
    obtain ⟨zv, hz1, hz2⟩ := hz.run w C
    refine ⟨zv, by simpa using hz2, ?_, ?_⟩ <;>
    simp [Instr.lookup, run_underlying (mapT_un hmt), run_getMap h1, hc, hf, hm, hz1]
  | some i =>
    obtain ⟨hi, hk, _⟩ := mfind_set_some m k z i hm
    have hil : i < ents.toList.length := by have := congrArg List.length h2; simp at this; simp; omega
    have hmi : m[i]? = some m[i] := List.getElem?_eq_getElem hi
    have hei : ents.toList[i]? = some ents.toList[i] := List.getElem?_eq_getElem hil
    have hei' : ents[i]? = some ents.toList[i] := by simpa using hei
    refine ⟨(ents.toList[i]).val, ?_, ?_, ?_⟩
    · simp only [hmi, Option.bind_some, Option.map_some, Option.getD_some]
      exact h3.2 i _ _ (by simp [hmi]) (by simp [hei])
    · simp [Instr.lookup, run_underlying (mapT_un hmt), run_getMap h1, hc, hf, hm, hei']
    · simp [Instr.lookup, run_underlying (mapT_un hmt), run_getMap h1, hc, hf, hm, hei', hmi]
theorem run_upd (KE : KeyEnc P kt ek) {mt : TypeId} (hmt : mapT P mt = some (kt, et)) {b : Nat} {m : List (K × α)} (h : ObjRel C b (.map (encM ek ev m)) w) (k : K) (x : α) {u : Value} (hu : Rel C (ev x) u) :
    ∃ ents' clock', (Instr.mapUpdate mt (.map (some b)) (ek k) u).run P w = .ok () { w with heap := w.heap.setIfInBounds b (.map ents' clock') } ∧
      ents'.toList.map (·.key) = (encM ek ev (mset m k x)).map (·.1) ∧ Rels C ((encM ek ev (mset m k x)).map (·.2)) (ents'.toList.map (·.val)) ∧ (ents'.toList.map (·.born)).Pairwise (· < ·) ∧ ∀ e ∈ ents'.toList, e.born < clock' := by
  obtain ⟨ents, clock, h1, h2, h3, h4, h5⟩ := map_ents h
  have hf := KE.find ents.toList (m.map (·.1)) k w h2
  have hc := fun e => KE.check e k w
  have e1 : (encM ek ev (mset m k x)).map (·.1) = ((mset m k x).map (·.1)).map ek := by simp [encM]
  have e2 : (encM ek ev (mset m k x)).map (·.2) = (mset m k x).map fun p => ev p.2 := by simp [encM]
  rw [e1, e2]
  cases hm : mfind (m.map (·.1)) k with
  | none =>
    refine ⟨ents.push { key := ek k, val := u, born := clock }, clock + 1, ?_, ?_, ?_, ?_, ?_⟩
    · simp [Instr.mapUpdate, run_underlying (mapT_un hmt), run_getMap h1, run_setMap h1, hc, hf, hm]
    · rw [mfind_set_none m k x hm]; simp [h2]
    · rw [mfind_set_none m k x hm]
      simpa using h3.append (Rels.cons hu Rels.nil)
    · simp only [Array.toList_push, List.map_append, List.map_cons, List.map_nil]
      refine List.pairwise_append.2 ⟨h4, by simp, fun p hp q hq => ?_⟩
      obtain ⟨e, he, rfl⟩ := List.mem_map.1 hp
      simp at hq; subst hq; exact h5 e he
    · intro e he
      simp only [Array.toList_push, List.mem_append, List.mem_singleton] at he
      rcases he with he | rfl
      · have := h5 e he; omega
      · simp
  | some i =>
    obtain ⟨hi, hk, hset⟩ := mfind_set_some m k x i hm
    have hil : i < ents.toList.length := by have := congrArg List.length h2; simp at this; simp; omega
    obtain ⟨e0, hei⟩ : ∃ e0, ents.toList[i]? = some e0 := ⟨_, List.getElem?_eq_getElem hil⟩
    have hei' : ents[i]? = some e0 := by simpa using hei
    have hil2 : i < ents.size := by simpa using hil
    have hkey : e0.key = ek k := by
      have := congrArg (fun l => l[i]?) h2
      simp only [List.getElem?_map, hei] at this
      have hk' := hk
      simp only [List.getElem?_map] at hk'
      rw [hk'] at this
      simpa using this
    refine ⟨ents.modify i (fun e => { e with key := ek k, val := u }), clock, ?_, ?_, ?_, ?_, ?_⟩
    · simp [Instr.mapUpdate, run_underlying (mapT_un hmt), run_getMap h1, run_setMap h1, hc, hf, hm, hei', hkey, KE.stay]
    · rw [hset, List.map_set, List.map_set, ← h2]
      apply List.ext_getElem?
      intro j
      simp only [Array.toList_modify, List.getElem?_map, List.getElem?_modify, List.getElem?_set, List.length_map]
      by_cases hij : i = j
      · subst hij; simp only [hei, hei']; simp [hil, hi, hil2]
      · simp [hij]
    · rw [hset, List.map_set]
      have : (ents.modify i (fun e => { e with key := ek k, val := u })).toList.map (·.val) = (ents.toList.map (·.val)).set i u := by
        apply List.ext_getElem?
        intro j
        simp only [Array.toList_modify, List.getElem?_map, List.getElem?_modify, List.getElem?_set, List.length_map]
        by_cases hij : i = j
        · subst hij; simp only [hei, hei']; simp [hil, hi, hil2]
        · simp [hij]
      rw [this]
      refine ⟨by simp [h3.1], fun j c v hj1 hj2 => ?_⟩
      rw [List.getElem?_set] at hj1 hj2
      by_cases hij : i = j
      · subst hij
        simp at hj1 hj2
        rw [← hj1.2, ← hj2.2]; exact hu
      · rw [if_neg hij] at hj1 hj2
        exact h3.2 j c v hj1 hj2
    · have : (ents.modify i (fun e => { e with key := ek k, val := u })).toList.map (·.born) = ents.toList.map (·.born) := by
        apply List.ext_getElem?
        intro j
        simp only [Array.toList_modify, List.getElem?_map, List.getElem?_modify]
        by_cases hij : i = j
        · subst hij; simp only [hei]; simp
        · simp [hij]
      rw [this]; exact h4
    · intro e he
      obtain ⟨j, hj⟩ := List.getElem?_of_mem he
      rw [Array.toList_modify, List.getElem?_modify] at hj
      cases hej : ents.toList[j]? with
      | none => simp [hej] at hj
      | some e0 =>
        have hm0 := h5 e0 (List.mem_of_getElem? hej)
        by_cases hij : i = j
        · simp [hej, hij] at hj; subst hj; exact hm0
        · simp [hej, hij] at hj; subst hj; exact hm0
theorem r_makeMap (m : List (K × α)) (hm : m = []) {mt : TypeId} (ht : Nat.blt t S.nt = true)
    (hr : ∀ b, AWL P w0 C0 ops rest Q (AState.put ⟨S.nt, S.slots, ⟨b, true, .map (encM ek ev m)⟩ :: S.objs⟩ t (.a (.v (.map (some b)))))) :
    AWL P w0 C0 ops (⟨some t, .makeMap mt none, ty, pos, aft, none⟩ :: rest) Q S := by
  rintro a w ⟨C, T, hs⟩
  subst hm
  have hrun : (execOp a.eval ⟨some t, .makeMap mt none, ty, pos, aft, none⟩).run P w = .ok (.value (.map (some w.heap.size))) (w.alloc (.map #[] 0)) := by
    have : (Instr.makeMap mt none).run P w = .ok (.map (some w.heap.size)) (w.alloc (.map #[] 0)) := rfl
    simp [execOp, this]
  refine wpList_plain rfl (fun K hK => ?_)
  unfold Oper.wp
  rw [hrun]
  have hs' := hs.newObj (.map #[] 0) (o := .map (encM ek ev [])) ⟨#[], 0, heap_alloc_at _ _, rfl, Rels.nil, by simp, by simp⟩
  exact hK _ _ (hr w.heap.size _ _ ⟨C, T, hs'.put ht (srel_v _)⟩)
end
end Go.Proofs.Ytljgdbgcleibjaa.A
namespace Go.Proofs.Ytljgdbgcleibjaa.A
open Go Go.RowKit
set_option linter.unusedVariables false
set_option linter.unusedSimpArgs false
set_option linter.unusedSectionVars false
variable {P : Program} {w0 : Base} {C0 C : CS} {T : TS} {S S' : AState} {a : Act} {w : World} {ops : Array Oper} {rest : List Oper} {o : Oper} {Q : Exit → AState → Prop}
variable {t : Nat} {ty ty' : TypeId} {pos : String} {aft : Array Edge}
section
variable {K α : Type} [DecidableEq K]
theorem mget_mset (m : List (K × α)) (k k' : K) (v : α) : mget (mset m k v) k' = if k = k' then some v else mget m k' := by
  induction m with
  | nil => simp [mset, mget]
  | cons p r ih =>
    obtain ⟨x, u⟩ := p
    unfold mset
    split
    · rename_i e; subst e; unfold mget; split <;> rfl
    · rename_i e
      unfold mget
      split
      · rename_i e'; subst e'; rw [if_neg (fun h => e h.symm)]
      · exact ih
end
end Go.Proofs.Ytljgdbgcleibjaa.A
namespace Go.Proofs.Ytljgdbgcleibjaa.A
open Go Go.RowKit
set_option linter.unusedVariables false
set_option linter.unusedSimpArgs false
set_option linter.unusedSectionVars false
variable {P : Program} {w0 : Base} {C0 C : CS} {T : TS} {S S' : AState} {a : Act} {w : World} {ops : Array Oper} {rest : List Oper} {o : Oper} {Q : Exit → AState → Prop}
variable {t : Nat} {ty ty' : TypeId} {pos : String} {aft : Array Edge}
theorem keyEnc_of_eq {K : Type} [DecidableEq K] {kt : TypeId} {d : TypeDesc} {ek : K → Value} (hd : P.underlying kt = some d) (hag : ∀ k, ∃ cs, ek k = .agg cs) (heq : ∀ (a b : K) (w : World), (Op.equal kt (ek a) (ek b)).run P w = .ok (decide (b = a)) w)
    (hc : ∀ (e : Bool) (k : K) (w : World), (Instr.checkKey e 10000 kt (ek k)).run P w = .ok () w) (hst : ∀ k : K, Instr.sameBits 10000 (ek k) (ek k) = true) : KeyEnc P kt ek where
  check := hc
  stay := fun k w => by simp [Instr.keyThatStays, hst]
  find := fun ents ks k w h => by
    have hask : ∀ (ents : List MapEntry) (ks : List K) (i0 : Nat), ents.map (·.key) = ks.map ek → (Instr.findAsking kt (ek k) ents i0).run P w = .ok ((mfind ks k).bind fun i => (ents[i]?).map fun e => (i0 + i, e.val)) w := by
      intro ents
      induction ents with
      | nil => intro ks i0 h; cases ks with | nil => rfl | cons _ _ => simp at h
      | cons e es ih =>
        intro ks i0 h
        cases ks with
        | nil => simp at h
        | cons x ks =>
          simp only [List.map_cons, List.cons.injEq] at h
          unfold Instr.findAsking
          simp only [Sem.run_bind, h.1, heq, Result.andThen]
          by_cases hx : x = k
          · simp [mfind, hx]
          · simp only [hx, decide_false, Bool.false_eq_true, if_false]
            rw [ih ks (i0 + 1) h.2]
            cases hm : mfind ks k with
            | none => simp [mfind, hx, hm]
            | some i => simp [mfind, hx, hm, Nat.add_assoc, Nat.add_comm 1 i]
    have hnow : ents = [] ∨ Instr.findNow d (ek k) ents 0 = none := by
      cases ents with
      | nil => exact .inl rfl
      | cons e es =>
        right
        obtain ⟨cs, hcs⟩ := hag k
        unfold Instr.findNow
        rw [hcs]
        have : Instr.sameNow d (.agg cs) e.key = none := by cases d <;> rfl
        rw [this]
    rcases hnow with rfl | hnow
    · cases ks with
      | nil => simp [Instr.findKey, run_underlying hd, Instr.findNow, mfind]
      | cons _ _ => simp at h
    · have := hask ents ks 0 h
      simp only [Nat.zero_add] at this
      simp only [Instr.findKey, Sem.run_bind, run_underlying hd, Result.andThen, hnow]
      exact this
section
variable {K α : Type} [DecidableEq K] {ek : K → Value} {ev : α → AV} {kt et : TypeId}
theorem r_lookupK (i : Nat) (KE : KeyEnc P kt ek) {x y : Operand} {sy : SV} {b : Nat} {rw' : Bool} {m : List (K × α)} {k : K} (z : α) {mt : TypeId} (hx : S.ev x = some (.a (.v (.map (some b))))) (hi : S.objs[i]? = some ⟨b, rw', .map (encM ek ev m)⟩) (hy : S.ev y = some sy) (hyk : IsVal sy.av (ek k))
    (hmt : mapT P mt = some (kt, et)) (hz : ZeroAV P et (ev z)) (ht : Nat.blt t S.nt = true)
    (hr : AWL P w0 C0 ops rest Q (S.put t (.a (ev ((mget m k).getD z))))) : AWL P w0 C0 ops (⟨some t, .lookup mt x y false, ty, pos, aft, none⟩ :: rest) Q S :=
  awl_pure ht (fun C T a w hs => by
    obtain ⟨u, h1, h2, h3⟩ := run_look KE hmt (hs.objs _ (mem_of_get hi)).1 k z hz
    exact ⟨u, by simp [execOp, hs.evv hx, (hyk C _).1 (hs.ev hy).av, h2], h1⟩) hr
theorem r_mapUpdateK (i : Nat) (KE : KeyEnc P kt ek) {x y v : Operand} {sy : SV} {b : Nat} {m : List (K × α)} {k : K} (z : α) {sv : SV} {mt : TypeId} (hx : S.ev x = some (.a (.v (.map (some b))))) (hi : S.objs[i]? = some ⟨b, true, .map (encM ek ev m)⟩) (hy : S.ev y = some sy) (hyk : IsVal sy.av (ek k)) (hv : S.ev v = some sv) (hz : sv.av = ev z)
    (hmt : mapT P mt = some (kt, et))
    (hr : AWL P w0 C0 ops rest Q ⟨S.nt, S.slots, S.objs.set i ⟨b, true, .map (encM ek ev (mset m k z))⟩⟩) : AWL P w0 C0 ops (⟨none, .mapUpdate mt x y v, ty, pos, aft, none⟩ :: rest) Q S := by
  refine awl_opu rfl rfl (fun C T a w hs => ?_) hr
  have hob : ObjRel C b (.map (encM ek ev m)) w := (hs.objs _ (mem_of_get hi)).1
  have hb : b < w.heap.size := hs.objlt (mem_of_get hi)
  have hu := (hs.ev hv).av
  rw [hz] at hu
  generalize hvv : a.eval v = uv at hu
  obtain ⟨ents', clock', hrun, g1, g2, g3⟩ := run_upd KE hmt hob k z hu
  refine ⟨{ w with heap := w.heap.setIfInBounds b (.map ents' clock') }, C, T, by simp [execOp, hs.evv hx, (hyk C _).1 (hs.ev hy).av, hvv, hrun], hs.setObj hi (Nat.le_refl _) rfl rfl rfl (by simp) (fun j hj => by rw [Array.getElem?_setIfInBounds, if_neg (fun e : b = j => hj e.symm)]) ⟨ents', clock', by simp [hb], g1, g2, g3⟩⟩
end
end Go.Proofs.Ytljgdbgcleibjaa.A
namespace Go.Proofs.Ytljgdbgcleibjaa.A
open Go Go.RowKit
set_option linter.unusedVariables false
set_option linter.unusedSimpArgs false
set_option linter.unusedSectionVars false
variable {P : Program} {w0 : Base} {C0 C : CS} {T : TS} {S S' : AState} {a : Act} {w : World} {ops : Array Oper} {rest : List Oper} {o : Oper} {Q : Exit → AState → Prop}
variable {t : Nat} {ty ty' : TypeId} {pos : String} {aft : Array Edge}
theorem run_checkFs {d : Nat} (em : Bool) (ih : ∀ t q, eqF P d t = some q → ∀ e, d ≤ e → ∀ us, Kn q us → ∀ w, (Instr.checkKey em e t (mkV P t us)).run P w = .ok () w) (e : Nat) (he : d ≤ e) (xs : Array Value) (g : Field → PUnit → Sem (ForInStep PUnit))
    (hg : ∀ (f : Field) (v : Value) (w : World), f.name ≠ "_" → (part f.type xs f.offset).run P w = .ok v w → (Instr.checkKey em e f.type v).run P w = .ok () w → (g f PUnit.unit).run P w = .ok (.yield PUnit.unit) w) (w : World) :
    ∀ (fs : List Field) (o : Nat) (qs : List VK), eqFs P (eqF P d) o fs = some qs → ∀ (us : List Value), xs.toList.drop o = us → Kn qs us → (forIn (m := Sem) fs PUnit.unit g).run P w = .ok PUnit.unit w
  | [], o, qs, h, us, _, _ => by simp
  | f :: fs, o, qs, h, us, hx, hu => by
    obtain ⟨f1, f2, q, qr, hq, hs, hr, rfl⟩ := eqFs_cons h
    obtain ⟨u1, u2, rfl, hu1, hu2⟩ := hu.split
    have px := run_partF hs hx hu1 (eqF_agg hq) w
    have hx2 : xs.toList.drop (o + q.length) = u2 := by rw [← List.drop_drop, hx, ← hu1.len, List.drop_left]
    have ihr := run_checkFs em ih e he xs g hg w fs _ qr hr u2 hx2 hu2
    have hgf := hg f _ w f1 (by rw [f2]; exact px) (ih _ _ hq e he u1 hu1 w)
    rw [List.forIn_cons]
    simp only [Sem.run_bind, hgf, Result.andThen]
    exact ihr
theorem run_checkF (em : Bool) : ∀ (d : Nat) (t : TypeId) (q : List VK), eqF P d t = some q → ∀ e, d ≤ e → ∀ us, Kn q us → ∀ w, (Instr.checkKey em e t (mkV P t us)).run P w = .ok () w
  | 0, _, _, h, _, _, _, _, _ => by cases h
  | d + 1, t, q, h, 0, he, _, _, _ => by omega
  | d + 1, t, q, h, e + 1, he, us, hu, w => by
    unfold eqF at h
    split at h
    · rename_i q' hd
      split at h
      · rename_i hna
        cases h
        match us, hu with
        | [u], hu =>
          obtain ⟨n, rfl⟩ := hu.1
          simp [mkV, notAgg_eq hna, Instr.checkKey, run_underlying hd]
      · cases h
    · rename_i hd
      split at h
      · rename_i hna
        cases h
        match us, hu with
        | [u], hu =>
          obtain ⟨n, rfl⟩ := hu.1
          simp [mkV, notAgg_eq hna, Instr.checkKey, run_underlying hd]
      · cases h
    · rename_i fs hd
      split at h
      · rename_i hc
        simp only [Bool.and_eq_true, Bool.not_eq_true'] at hc
        have hag := isAggB_eq hc.2
        simp only [mkV, hag, if_true]
        unfold Instr.checkKey
        simp only [Sem.run_bind, run_underlying hd, Result.andThen]
        rw [← Array.forIn_toList]
        rw [run_checkFs em (fun t q h => run_checkF em d t q h) e (by omega) us.toArray _ ?hg w fs.toList 0 q h us (by simp) hu]
        · rfl
        · intro f v w h1 h2 h3
          simp [h1, Sem.run_bind, h2, h3]
      · cases h
    · cases h
theorem sameBits_kn {n : Nat} {v : Value} {k : VK} (h : k.is v) : Instr.sameBits n v v = true := by
  cases k with
  | int q => obtain ⟨m, rfl⟩ := h; simp [Instr.sameBits]
  | bool => obtain ⟨m, rfl⟩ := h; simp [Instr.sameBits]
theorem sameBits_flat {us : List Value} (h : ∀ v ∈ us, ∃ k : VK, k.is v) : Instr.sameBits 10000 (.agg us.toArray) (.agg us.toArray) = true := by
  unfold Instr.sameBits
  simp only [beq_self_eq_true, Bool.true_and, List.all_eq_true]
  intro p hp
  have : ∀ (l : List Value), (∀ v ∈ l, ∃ k : VK, k.is v) → ∀ p ∈ l.zip l, ∃ v, p = (v, v) ∧ ∃ k : VK, k.is v := by
    intro l
    induction l with
    | nil => intro _ p hp; simp at hp
    | cons v l ih =>
      intro hl p hp
      rw [List.zip_cons_cons] at hp
      rcases List.mem_cons.1 hp with rfl | hp
      · exact ⟨v, rfl, hl v (by simp)⟩
      · exact ih (fun v hv => hl v (List.mem_cons_of_mem _ hv)) p hp
  obtain ⟨v, rfl, k, hk⟩ := this us h p (by simpa using hp)
  exact sameBits_kn hk
theorem keyEnc_flat {K : Type} [DecidableEq K] {kt : TypeId} {q : List VK} (h : FlatT P kt q) (cells : K → List Value) (hinj : ∀ a b, cells a = cells b → a = b) (hk : ∀ k, Kn q (cells k)) : KeyEnc P kt (fun k => .agg (cells k).toArray) := by
  refine keyEnc_of_eq h.str (fun k => ⟨_, rfl⟩) (fun a b w => ?_) (fun e k w => ?_) (fun k => sameBits_flat (hk k).mem)
  · simp only [Op.equal, Op.maxDepth]
    rw [run_flat h (hk a) (hk b) (decide (b = a)) (by rw [decide_eq_true_eq]; exact ⟨fun e => by rw [e], fun e => (hinj _ _ e).symm⟩) w]
  · have := run_checkF e 5 kt q h.eq 10000 (by omega) (cells k) (hk k) w
    simpa only [mkV, h.agg, if_true] using this
end Go.Proofs.Ytljgdbgcleibjaa.A
namespace Go.Proofs.Ytljgdbgcleibjaa.A
open Go Go.RowKit
set_option linter.unusedVariables false
set_option linter.unusedSimpArgs false
variable {P : Program} {w0 : Base} {C0 C : CS} {T : TS} {S S' : AState} {a : Act} {w : World} {ops : Array Oper} {rest : List Oper} {o : Oper} {Q : Exit → AState → Prop}
variable {t : Nat} {ty ty' : TypeId} {pos : String} {aft : Array Edge}
theorem imp_commitRC (t : Nat) {r : AV} {os r' : List OE} {l : List (Sp × Bool)} (hR : RowC r os l) (ht : S.get t = some (.a r)) (ho : S.objs = os ++ r') :
    Imp w0 C0 S (AState.put ⟨S.nt, S.slots, r'⟩ t (.a (.sl 5 (l.map chC)))) := by
  obtain ⟨nt, sl, ob⟩ := S
  rcases hR with ⟨rfl, rfl, rfl⟩ | ⟨g, cap, n, L, _, rfl, hnL, rfl, rfl⟩
  · simp only [List.nil_append] at ho; subst ho
    exact imp_le t (x := .a (.sl 5 [])) ht (.nilSl 5)
  · simp only at ho; subst ho
    exact imp_commitB 0 t ht hnL rfl
def ekC (c : Sp × Bool) : Value := .agg (chV c).toArray
def setC (l : List (Sp × Bool)) : List ((Sp × Bool) × Bool) := l.foldl (fun m c => mset m c true) []
theorem setC_snoc {l : List (Sp × Bool)} {i : Nat} {c : Sp × Bool} (h : l[i]? = some c) : setC (l.take (i + 1)) = mset (setC (l.take i)) c true := by
  unfold setC; rw [List.take_add_one, h, List.foldl_append]; rfl
theorem setC_get (l : List (Sp × Bool)) (z : Sp × Bool) : (mget (setC l) z).getD false = decide (z ∈ l) := by
  have : ∀ (l : List (Sp × Bool)) (m : List ((Sp × Bool) × Bool)), (mget (l.foldl (fun m c => mset m c true) m) z).getD false = (decide (z ∈ l) || (mget m z).getD false) := by
    intro l
    induction l with
    | nil => intro m; simp
    | cons c l ih =>
      intro m
      rw [List.foldl_cons, ih, mget_mset]
      by_cases h : c = z
      · subst h; simp
      · rw [if_neg h, Bool.eq_iff_iff]
        have h' : ¬ z = c := fun e => h e.symm
        simp [h']
  have h := this l []
  simpa [setC, mget] using h
theorem btw_way {X Y Z : List It} {p : Sp × Bool} (h : p ∈ refBtw X Z) : p ∈ refBtw X Y ++ refBtw Y Z := by
  unfold refBtw at *
  rw [List.mem_append, btw_mem, btw_mem]
  rw [btw_mem] at h
  rcases h with ⟨h0, z, hz, hk, hn⟩ | ⟨h0, z, hz, hk, hn⟩
  · by_cases hy : z ∈ Y
    · exact .inr (.inl ⟨h0, z, hy, hk, hn⟩)
    · exact .inl (.inl ⟨h0, z, hz, hk, hy⟩)
  · by_cases hy : z ∈ Y
    · exact .inl (.inr ⟨h0, z, hy, hk, hn⟩)
    · exact .inr (.inr ⟨h0, z, hz, hk, hy⟩)
theorem r_appendRC {x y : Operand} {rx ry : AV} {osx osy r' : List OE} {la lb : List (Sp × Bool)} {st bytes : Nat} (hx : S.ev x = some (.a rx)) (hy : S.ev y = some (.a ry)) (hX : RowC rx osx la) (hY : RowC ry osy lb) (hobjs : (osx ++ (osy ++ r')).Perm S.objs) (hst : sliceT P st = some 55) (hsz : szT P 55 = some 5) (hby : bytesT P 55 = some bytes) (hz : (zeroT P 55).map (·.length) = some 5)
    (hb : (la.length + lb.length) * bytes ≤ 140737488355328) (h63 : la.length + lb.length ≤ 9223372036854775807) (ht : Nat.blt t S.nt = true)
    (hr : ∀ r os, RowC r os (la ++ lb) → AWL P w0 C0 ops rest Q (AState.put ⟨S.nt, S.slots, os ++ r'⟩ t (.a r))) :
    AWL P w0 C0 ops (⟨some t, .call ⟨.builtin .append, #[x, y], #[st, st]⟩, ty, pos, aft, none⟩ :: rest) Q S := by
  refine awl_imp (imp_perm hobjs) ?_
  have ex : ∀ (ob : List OE), AState.ev ⟨S.nt, S.slots, ob⟩ x = S.ev x := fun _ => by cases x <;> rfl
  have ey : ∀ (ob : List OE), AState.ev ⟨S.nt, S.slots, ob⟩ y = S.ev y := fun _ => by cases y <;> rfl
  rcases hX with ⟨rfl, rfl, rfl⟩ | ⟨g, cap, n, L, hla, rfl, hnL, rfl, hL⟩
  · rcases hY with ⟨rfl, rfl, rfl⟩ | ⟨g', cap', n', L', hlb, rfl, hnL', rfl, hL'⟩
    · exact r_appendNil ((ex _).trans hx) (fun _ _ _ _ _ => Nat.le_refl 0) ((ey _).trans hy) hst hsz ht (hr _ [] (.inl ⟨rfl, rfl, rfl⟩))
    · have hl : L'.length = lb.length := by rw [hL', List.length_map]
      refine r_appendBNs (m := L') ((ex _).trans hx) (src_buf 0 ((ey _).trans hy) hnL' rfl) (by intro e; rw [e] at hL'; exact hlb (List.map_eq_nil_iff.1 hL'.symm)) hst hsz hby hz (by rw [hl]; simpa using hb) (by rw [hl]; simpa using h63) ht (fun gb gc => ?_)
      refine awl_imp (imp_sub (objs := [⟨gb, true, .buf 5 L' gc 55⟩] ++ r') (.cons_cons _ (.cons _ (.refl _)))) ?_
      exact hr _ _ (.inr ⟨gb, gc, _, L', by simpa using hlb, rfl, rfl, rfl, by simpa using hL'⟩)
  · have hl0 : L.length = la.length := by rw [hL, List.length_map]
    rcases hY with ⟨rfl, rfl, rfl⟩ | ⟨g', cap', n', L', hlb, rfl, hnL', rfl, hL'⟩
    · refine r_appendNil ((ex _).trans hx) (fun C T a w hs => ?_) ((ey _).trans hy) hst hsz ht (hr _ _ (.inr ⟨g, cap, n, L, by simpa using hla, rfl, hnL, rfl, by simpa using hL⟩))
      obtain ⟨arr, _, _, h3, _⟩ := (hs.objs ⟨g, true, .buf 5 L cap 55⟩ List.mem_cons_self).1
      rw [hnL]; exact h3
    · have hl : L'.length = lb.length := by rw [hL', List.length_map]
      refine r_appendBGs 0 (l := L) (m := L') ((ex _).trans hx) hnL rfl (src_buf 1 ((ey _).trans hy) hnL' rfl) (by intro e; rw [e] at hL'; exact hlb (List.map_eq_nil_iff.1 hL'.symm)) hst hsz hby hz (by rw [hl, hl0]; exact hb) (by rw [hl, hl0]; exact h63) ht (fun gb gc => ?_)
      refine awl_imp (imp_sub (objs := [⟨gb, true, .buf 5 (L ++ L') gc 55⟩] ++ r') (.cons_cons _ (.cons _ (.refl _)))) ?_
      exact hr _ _ (.inr ⟨gb, gc, _, L ++ L', by simp [hla], rfl, rfl, rfl, by rw [hL, hL', List.map_append]⟩)
end Go.Proofs.Ytljgdbgcleibjaa.A
namespace Go.Proofs.Ytljgdbgcleibjaa.A
open Go Go.RowKit
set_option linter.unusedVariables false
set_option linter.unusedSimpArgs false
set_option maxRecDepth 100000
theorem TF.map53 : mapT Try.prog 53 = some (55, 4) := by kernel_rfl
theorem TF.zav4 : ZeroAV Try.prog 4 (.v (.bool false)) := ⟨.v (.bool false), by kernel_rfl, .one (.refl _)⟩
theorem told_own (a b : TreeV) (hwa : wfRt (rootT a)) (hwb : wfRt (rootT b)) (haN : (idl a).length ≤ 100000) (hbN : (idl b).length ≤ 100000) (hkey : ((ownTwo a b).map keyE).Nodup) (many : Int) (hm1 : 1 ≤ many) (hm2 : many ≤ 1000000) : AC Try.prog 16 [encT a, encT b, .v (.int .i64 many)] [] (fun r n => RowC r n ((chg a b).take many.toNat)) := by
 refine ac_of_awp (rs := [6]) (nt := 26) Try.func16 rfl rfl rfl rfl (fun w0 C0 hq => ?_)
 refine awp_seq ?_
 refine awp_region ?_
 refine r_box rfl rfl rfl (fun b5 => ?_)
 refine r_assign rfl rfl ?_
 refine awl_nil ?_
 refine x_then ?_
 refine awp_seq ?_
 refine awp_region ?_
 refine r_alloc TF.zero29 rfl (fun b7 => ?_)
 refine awl_nil ?_
 refine x_then ?_
 refine awp_seq ?_
 refine awp_seq ?_
 refine awp_region ?_
 refine r_move rfl rfl ?_
 refine r_move rfl rfl ?_
 refine r_call0 hq rfl rfl (.cons (.ev rfl rfl) (.cons (.ev rfl rfl) .nil)) (Between_ok a b) rfl TF.en20 rfl (fun r hr => ?_)
 obtain rfl := hr
 refine awl_nil ?_
 refine x_then ?_
 refine awp_block ?_
 refine awp_rangeFuncS (fun pre wo => ∃ (hd : AV) (os : List OE) (cs : List (Sp × Bool)), pre = cs.map chA ∧ cs = (chg a b).take cs.length ∧ (cs.length : Int) < many ∧ RowC hd os cs ∧ wo = os ++ [⟨b7, true, .box [hd]⟩, ⟨b5, true, .box [.v (.int .i64 many)]⟩]) (fun c pre wo => c = .exit 0 ∧ ∃ (hd : AV) (os : List OE) (cs : List (Sp × Bool)), cs = (chg a b).take cs.length ∧ (cs.length : Int) = many ∧ RowC hd os cs ∧ wo = os ++ [⟨b7, true, .box [hd]⟩, ⟨b5, true, .box [.v (.int .i64 many)]⟩]) [(5, .a (.v (.pointer (some ⟨b5, 0, none⟩)))), (7, .a (.v (.pointer (some ⟨b7, 0, none⟩))))] [true, true] hq rfl (Between1_ok a b hwa hwb haN hbN hkey) TF.en37 (fun pre x ⟨c, _, _, h⟩ => by subst h; rfl) rfl rfl rfl (by first | exact List.Sublist.refl _ | exact .cons_cons _ (.cons _ (.refl _)) | exact List.nil_sublist _ | exact .cons _ (.refl _) | exact .cons _ (.cons _ (.refl _)) | exact .cons _ (.cons _ (.cons _ (.refl _))) | exact .cons _ (.cons _ (.cons _ (.cons _ (.refl _)))) | exact .cons_cons _ (List.nil_sublist _)) (Slots.cons rfl (by first | exact .refl _ | exact .nilOwn _ _ | exact .nilSl _ | exact .ownSl _ _ _  | exact SV.le.of_eq (by simp)) (Slots.cons rfl (by first | exact .refl _ | exact .nilOwn _ _ | exact .nilSl _ | exact .ownSl _ _ _  | exact SV.le.of_eq (by simp)) Slots.nil)) rfl rfl ⟨.v (.slice none 0 0), [], [], rfl, rfl, by simp; omega, .inl ⟨rfl, rfl, rfl⟩, rfl⟩ ?_ ?_ ?_
 ·
  intro lr pre x wo rec busy w0 C0 hq hj hax
  obtain ⟨hd, os, cs, rfl, hcs, hcm, hR, rfl⟩ := hj
  obtain ⟨c, hct, hpre, rfl⟩ := hax
  rw [List.length_map] at hct
  rcases hR with ⟨hcn, rfl, rfl⟩ | ⟨g, cap, n, L, hcn, rfl, hnL, rfl, hL⟩
  ·
   have hcl : cs.length = 0 := by rw [hcn]; rfl
   refine awpi_seq ?_
   refine awpi_region ?_
   refine awli_op (fun c h => (by cases h)) ?_
   refine r_alloc TF.zero47 rfl (fun b8 => ?_)
   refine awl_nil ⟨rfl, ?_⟩
   refine awli_op (fun c h => (by cases h)) ?_
   first | (refine r_store 0 rfl rfl rfl TF.sz47 rfl rfl rfl ?_) | (refine r_store 1 rfl rfl rfl TF.sz47 rfl rfl rfl ?_) | (refine r_store 2 rfl rfl rfl TF.sz47 rfl rfl rfl ?_) | (refine r_store 3 rfl rfl rfl TF.sz47 rfl rfl rfl ?_)
   refine awl_nil ⟨rfl, ?_⟩
   refine awli_nil ?_
   refine x_then ?_
   refine awpi_region ?_
   refine awli_op (fun c h => (by cases h)) ?_
   refine r_assign rfl rfl ?_
   refine awl_nil ⟨rfl, ?_⟩
   refine awli_nil ?_
   refine ⟨rfl, 3, rfl, ?_⟩
   refine awpi_block ?_
   refine awpi_seq ?_
   refine awpi_region ?_
   refine awli_op (fun c h => (by cases h)) ?_
   first | (refine r_load1 rfl TF.agg29 rfl ?_) | (refine r_load1b 0 rfl rfl rfl TF.agg29 rfl ?_) | (refine r_load1b 1 rfl rfl rfl TF.agg29 rfl ?_) | (refine r_load1b 2 rfl rfl rfl TF.agg29 rfl ?_) | (refine r_load1b 3 rfl rfl rfl TF.agg29 rfl ?_)
   refine awl_nil ⟨rfl, ?_⟩
   refine awli_op (fun c h => (by cases h)) ?_
   first | (refine r_loadA rfl TF.agg47 TF.sz47 rfl rfl ?_) | (refine r_loadAb 0 rfl rfl TF.agg47 TF.sz47 rfl rfl ?_) | (refine r_loadAb 1 rfl rfl TF.agg47 TF.sz47 rfl rfl ?_) | (refine r_loadAb 2 rfl rfl TF.agg47 TF.sz47 rfl rfl ?_) | (refine r_loadAb 3 rfl rfl TF.agg47 TF.sz47 rfl rfl ?_)
   refine awl_nil ⟨rfl, ?_⟩
   refine awli_op (fun c h => (by cases h)) ?_
   refine r_move rfl rfl ?_
   refine awl_nil ⟨rfl, ?_⟩
   refine awli_op (fun c h => (by cases h)) ?_
   refine r_build (parts := [(0, .tmp 16), (1, .tmp 17)]) rfl TF.pl55 TF.zero55 rfl rfl rfl ?_
   refine awl_nil ⟨rfl, ?_⟩
   refine awli_op (fun c h => (by cases h)) ?_
   refine r_lit 19 (parts := [(0, .tmp 18)]) rfl TF.sl29 TF.sz55 TF.zraw55 rfl rfl rfl rfl rfl rfl rfl ?_
   refine awl_nil ⟨rfl, ?_⟩
   refine awli_op (fun c h => (by cases h)) ?_
   refine r_appendBN rfl rfl (by first | exact .sl _ | exact .own _ _) (by simp [chunks]) TF.sl29 TF.sz55 TF.by55 TF.zlen55 (by simp [chunks] <;> omega) (by simp [chunks] <;> omega) rfl (fun gb gc => ?_)
   refine awl_nil ⟨rfl, ?_⟩
   refine awli_op (fun c h => (by cases h)) ?_
   first | (refine r_store 0 rfl rfl rfl TF.sz29 rfl rfl rfl ?_) | (refine r_store 1 rfl rfl rfl TF.sz29 rfl rfl rfl ?_) | (refine r_store 2 rfl rfl rfl TF.sz29 rfl rfl rfl ?_) | (refine r_store 3 rfl rfl rfl TF.sz29 rfl rfl rfl ?_) | (refine r_store 4 rfl rfl rfl TF.sz29 rfl rfl rfl ?_)
   refine awl_nil ⟨rfl, ?_⟩
   refine awli_nil ?_
   refine x_then ?_
   refine awpi_seq ?_
   refine awpi_region ?_
   refine awli_op (fun c h => (by cases h)) ?_
   first | (refine r_load1 rfl TF.agg29 rfl ?_) | (refine r_load1b 0 rfl rfl rfl TF.agg29 rfl ?_) | (refine r_load1b 1 rfl rfl rfl TF.agg29 rfl ?_) | (refine r_load1b 2 rfl rfl rfl TF.agg29 rfl ?_) | (refine r_load1b 3 rfl rfl rfl TF.agg29 rfl ?_) | (refine r_load1b 4 rfl rfl rfl TF.agg29 rfl ?_)
   refine awl_nil ⟨rfl, ?_⟩
   refine awli_op (fun c h => (by cases h)) ?_
   first | (refine r_lenS rfl rfl TF.sl29 rfl ?_) | (refine r_lenNil rfl TF.sl29 rfl ?_) | (refine r_lenV rfl TF.sl29 rfl ?_)
   refine awl_nil ⟨rfl, ?_⟩
   refine awli_op (fun c h => (by cases h)) ?_
   first | (refine r_load1 rfl TF.agg3 rfl ?_) | (refine r_load1b 0 rfl rfl rfl TF.agg3 rfl ?_) | (refine r_load1b 1 rfl rfl rfl TF.agg3 rfl ?_) | (refine r_load1b 2 rfl rfl rfl TF.agg3 rfl ?_) | (refine r_load1b 3 rfl rfl rfl TF.agg3 rfl ?_) | (refine r_load1b 4 rfl rfl rfl TF.agg3 rfl ?_)
   refine awl_nil ⟨rfl, ?_⟩
   refine awli_op (fun c h => (by cases h)) ?_
   refine r_cmp rfl rfl rfl rfl ?_
   refine awl_nil ⟨rfl, ?_⟩
   refine awli_nil ?_
   refine x_then ?_
   refine awpi_cond rfl (fun hc0 => ?_) (fun hc0 => ?_)
   ·
    have hge : many ≤ ((1 : Nat) : Int) := of_decide_eq_true (show decide (many ≤ ((1 : Nat) : Int)) = true from hc0)
    refine awpi_exit ?_
    refine x_blockO rfl ?_
    refine ⟨[⟨gb, true, .buf 5 [chC c] gc 55⟩, ⟨b7, true, .box [.v (.slice (some ⟨gb, 0, none⟩) [chC c].length gc)]⟩, ⟨b5, true, .box [.v (.int .i64 many)]⟩], .inr ⟨_, .exit 0, rfl, .v (.slice (some ⟨gb, 0, none⟩) [chC c].length gc), [⟨gb, true, .buf 5 [chC c] gc 55⟩], cs ++ [c], take_snoc hcs hct, by have := hge; simp only [List.length_append, List.length_singleton]; omega, .inr ⟨gb, gc, _, _, by simp, rfl, rfl, rfl, by rw [hcn]; simp⟩, rfl⟩, ?_, by simp⟩
    · exact .cons_cons _ (.cons _ (List.Sublist.refl _))
   ·
    have hlt : ¬ many ≤ ((1 : Nat) : Int) := of_decide_eq_false (show decide (many ≤ ((1 : Nat) : Int)) = false from hc0)
    refine awpi_skip ?_
    refine x_block ?_
    refine ⟨[⟨gb, true, .buf 5 [chC c] gc 55⟩, ⟨b7, true, .box [.v (.slice (some ⟨gb, 0, none⟩) [chC c].length gc)]⟩, ⟨b5, true, .box [.v (.int .i64 many)]⟩], .inl ⟨rfl, .v (.slice (some ⟨gb, 0, none⟩) [chC c].length gc), [⟨gb, true, .buf 5 [chC c] gc 55⟩], cs ++ [c], by simp, take_snoc hcs hct, by have := hlt; simp only [List.length_append, List.length_singleton]; omega, .inr ⟨gb, gc, _, _, by simp, rfl, rfl, rfl, by rw [hcn]; simp⟩, rfl⟩, ?_, by simp⟩
    · exact .cons_cons _ (.cons _ (List.Sublist.refl _))
  ·
   have hLl : L.length = cs.length := by rw [hL, List.length_map]
   refine awpi_seq ?_
   refine awpi_region ?_
   refine awli_op (fun c h => (by cases h)) ?_
   refine r_alloc TF.zero47 rfl (fun b8 => ?_)
   refine awl_nil ⟨rfl, ?_⟩
   refine awli_op (fun c h => (by cases h)) ?_
   first | (refine r_store 0 rfl rfl rfl TF.sz47 rfl rfl rfl ?_) | (refine r_store 1 rfl rfl rfl TF.sz47 rfl rfl rfl ?_) | (refine r_store 2 rfl rfl rfl TF.sz47 rfl rfl rfl ?_) | (refine r_store 3 rfl rfl rfl TF.sz47 rfl rfl rfl ?_) | (refine r_store 4 rfl rfl rfl TF.sz47 rfl rfl rfl ?_)
   refine awl_nil ⟨rfl, ?_⟩
   refine awli_nil ?_
   refine x_then ?_
   refine awpi_region ?_
   refine awli_op (fun c h => (by cases h)) ?_
   refine r_assign rfl rfl ?_
   refine awl_nil ⟨rfl, ?_⟩
   refine awli_nil ?_
   refine ⟨rfl, 4, rfl, ?_⟩
   refine awpi_block ?_
   refine awpi_seq ?_
   refine awpi_region ?_
   refine awli_op (fun c h => (by cases h)) ?_
   first | (refine r_load1 rfl TF.agg29 rfl ?_) | (refine r_load1b 0 rfl rfl rfl TF.agg29 rfl ?_) | (refine r_load1b 1 rfl rfl rfl TF.agg29 rfl ?_) | (refine r_load1b 2 rfl rfl rfl TF.agg29 rfl ?_) | (refine r_load1b 3 rfl rfl rfl TF.agg29 rfl ?_) | (refine r_load1b 4 rfl rfl rfl TF.agg29 rfl ?_)
   refine awl_nil ⟨rfl, ?_⟩
   refine awli_op (fun c h => (by cases h)) ?_
   first | (refine r_loadA rfl TF.agg47 TF.sz47 rfl rfl ?_) | (refine r_loadAb 0 rfl rfl TF.agg47 TF.sz47 rfl rfl ?_) | (refine r_loadAb 1 rfl rfl TF.agg47 TF.sz47 rfl rfl ?_) | (refine r_loadAb 2 rfl rfl TF.agg47 TF.sz47 rfl rfl ?_) | (refine r_loadAb 3 rfl rfl TF.agg47 TF.sz47 rfl rfl ?_) | (refine r_loadAb 4 rfl rfl TF.agg47 TF.sz47 rfl rfl ?_)
   refine awl_nil ⟨rfl, ?_⟩
   refine awli_op (fun c h => (by cases h)) ?_
   refine r_move rfl rfl ?_
   refine awl_nil ⟨rfl, ?_⟩
   refine awli_op (fun c h => (by cases h)) ?_
   refine r_build (parts := [(0, .tmp 16), (1, .tmp 17)]) rfl TF.pl55 TF.zero55 rfl rfl rfl ?_
   refine awl_nil ⟨rfl, ?_⟩
   refine awli_op (fun c h => (by cases h)) ?_
   refine r_lit 19 (parts := [(0, .tmp 18)]) rfl TF.sl29 TF.sz55 TF.zraw55 rfl rfl rfl rfl rfl rfl rfl ?_
   refine awl_nil ⟨rfl, ?_⟩
   refine awli_op (fun c h => (by cases h)) ?_
   refine r_appendBG 1 rfl hnL rfl rfl (by first | exact .sl _ | exact .own _ _) (by simp [chunks]) TF.sl29 TF.sz55 TF.by55 TF.zlen55 (by simp [chunks] <;> omega) (by simp [chunks] <;> omega) rfl (fun gb gc => ?_)
   refine awl_nil ⟨rfl, ?_⟩
   refine awli_op (fun c h => (by cases h)) ?_
   first | (refine r_store 0 rfl rfl rfl TF.sz29 rfl rfl rfl ?_) | (refine r_store 1 rfl rfl rfl TF.sz29 rfl rfl rfl ?_) | (refine r_store 2 rfl rfl rfl TF.sz29 rfl rfl rfl ?_) | (refine r_store 3 rfl rfl rfl TF.sz29 rfl rfl rfl ?_) | (refine r_store 4 rfl rfl rfl TF.sz29 rfl rfl rfl ?_)
   refine awl_nil ⟨rfl, ?_⟩
   refine awli_nil ?_
   refine x_then ?_
   refine awpi_seq ?_
   refine awpi_region ?_
   refine awli_op (fun c h => (by cases h)) ?_
   first | (refine r_load1 rfl TF.agg29 rfl ?_) | (refine r_load1b 0 rfl rfl rfl TF.agg29 rfl ?_) | (refine r_load1b 1 rfl rfl rfl TF.agg29 rfl ?_) | (refine r_load1b 2 rfl rfl rfl TF.agg29 rfl ?_) | (refine r_load1b 3 rfl rfl rfl TF.agg29 rfl ?_) | (refine r_load1b 4 rfl rfl rfl TF.agg29 rfl ?_)
   refine awl_nil ⟨rfl, ?_⟩
   refine awli_op (fun c h => (by cases h)) ?_
   first | (refine r_lenS rfl rfl TF.sl29 rfl ?_) | (refine r_lenNil rfl TF.sl29 rfl ?_) | (refine r_lenV rfl TF.sl29 rfl ?_)
   refine awl_nil ⟨rfl, ?_⟩
   refine awli_op (fun c h => (by cases h)) ?_
   first | (refine r_load1 rfl TF.agg3 rfl ?_) | (refine r_load1b 0 rfl rfl rfl TF.agg3 rfl ?_) | (refine r_load1b 1 rfl rfl rfl TF.agg3 rfl ?_) | (refine r_load1b 2 rfl rfl rfl TF.agg3 rfl ?_) | (refine r_load1b 3 rfl rfl rfl TF.agg3 rfl ?_) | (refine r_load1b 4 rfl rfl rfl TF.agg3 rfl ?_)
   refine awl_nil ⟨rfl, ?_⟩
   refine awli_op (fun c h => (by cases h)) ?_
   refine r_cmp rfl rfl rfl rfl ?_
   refine awl_nil ⟨rfl, ?_⟩
   refine awli_nil ?_
   refine x_then ?_
   refine awpi_cond rfl (fun hc0 => ?_) (fun hc0 => ?_)
   ·
    have hge : many ≤ (cs.length : Int) + 1 := by have := of_decide_eq_true hc0; simp [chunks] at this; omega
    refine awpi_exit ?_
    refine x_blockO rfl ?_
    refine ⟨[⟨gb, true, .buf 5 (L ++ [chC c]) gc 55⟩, ⟨b7, true, .box [.v (.slice (some ⟨gb, 0, none⟩) (L ++ [chC c]).length gc)]⟩, ⟨b5, true, .box [.v (.int .i64 many)]⟩], .inr ⟨_, .exit 0, rfl, .v (.slice (some ⟨gb, 0, none⟩) (L ++ [chC c]).length gc), [⟨gb, true, .buf 5 (L ++ [chC c]) gc 55⟩], cs ++ [c], take_snoc hcs hct, by have := hge; simp only [List.length_append, List.length_singleton]; omega, .inr ⟨gb, gc, _, _, by simp, rfl, rfl, rfl, by rw [hL]; simp⟩, rfl⟩, ?_, by simp⟩
    · exact .cons_cons _ (.cons _ (List.Sublist.refl _))
   ·
    have hlt : ¬ many ≤ (cs.length : Int) + 1 := by have := of_decide_eq_false hc0; simp [chunks] at this; omega
    refine awpi_skip ?_
    refine x_block ?_
    refine ⟨[⟨gb, true, .buf 5 (L ++ [chC c]) gc 55⟩, ⟨b7, true, .box [.v (.slice (some ⟨gb, 0, none⟩) (L ++ [chC c]).length gc)]⟩, ⟨b5, true, .box [.v (.int .i64 many)]⟩], .inl ⟨rfl, .v (.slice (some ⟨gb, 0, none⟩) (L ++ [chC c]).length gc), [⟨gb, true, .buf 5 (L ++ [chC c]) gc 55⟩], cs ++ [c], by simp, take_snoc hcs hct, by have := hlt; simp only [List.length_append, List.length_singleton]; omega, .inr ⟨gb, gc, _, _, by simp, rfl, rfl, rfl, by rw [hL]; simp⟩, rfl⟩, ?_, by simp⟩
    · exact .cons_cons _ (.cons _ (List.Sublist.refl _))
 ·
  intro xs wo' hG hJ
  obtain ⟨hd, os, cs, hxs, hcs, hcm, hR, rfl⟩ := hJ
  have hfin : (chg a b).take many.toNat = cs := by
   have h1 : cs.length = (chg a b).length := by have := congrArg List.length (hxs.symm.trans hG); simpa using this
   rw [h1, List.take_length] at hcs
   rw [List.take_of_length_le (by omega)]; exact hcs.symm
  rw [hfin]
  rcases hR with ⟨hcn, rfl, rfl⟩ | ⟨g, cap, n, L, hcn, rfl, hnL, rfl, hL⟩
  ·
   refine x_block ?_
   refine x_then ?_
   refine awp_seq ?_
   refine awp_region ?_
   first | (refine r_load1 rfl TF.agg29 rfl ?_) | (refine r_load1b 0 rfl rfl rfl TF.agg29 rfl ?_) | (refine r_load1b 1 rfl rfl rfl TF.agg29 rfl ?_) | (refine r_load1b 2 rfl rfl rfl TF.agg29 rfl ?_)
   refine r_assign rfl rfl ?_
   refine awl_nil ?_
   refine x_then ?_
   refine awp_ret ?_
   exact ⟨(.inl rfl), _, [], (.one (by first | exact .mk rfl rfl | exact .nil rfl)), (.inl ⟨hcn, rfl, rfl⟩), (List.nil_sublist _), (by simp)⟩
  ·
   refine x_block ?_
   refine x_then ?_
   refine awp_seq ?_
   refine awp_region ?_
   first | (refine r_load1 rfl TF.agg29 rfl ?_) | (refine r_load1b 0 rfl rfl rfl TF.agg29 rfl ?_) | (refine r_load1b 1 rfl rfl rfl TF.agg29 rfl ?_) | (refine r_load1b 2 rfl rfl rfl TF.agg29 rfl ?_)
   refine r_assign rfl rfl ?_
   refine awl_nil ?_
   refine x_then ?_
   refine awp_ret ?_
   exact ⟨(.inl rfl), _, [⟨g, true, .buf 5 L cap 55⟩], (.one (by first | exact .mk rfl rfl | exact .nil rfl)), (.inr ⟨g, cap, n, L, hcn, rfl, hnL, rfl, hL⟩), (.cons_cons _ (List.nil_sublist _)), (by simp)⟩
 ·
  intro c xs wo' hX
  obtain ⟨rfl, hd, os, cs, hcs, hge, hR, rfl⟩ := hX
  have hfin : (chg a b).take many.toNat = cs := by rw [← hge]; exact hcs.symm
  rw [hfin]
  rcases hR with ⟨hcn, _, _⟩ | ⟨g, cap, n, L, hcn, rfl, hnL, rfl, hL⟩
  · exfalso; rw [hcn] at hge; simp at hge; omega
  refine awp_exit ?_
  refine x_blockE ?_
  refine x_then ?_
  refine awp_seq ?_
  refine awp_region ?_
  first | (refine r_load1 rfl TF.agg29 rfl ?_) | (refine r_load1b 0 rfl rfl rfl TF.agg29 rfl ?_) | (refine r_load1b 1 rfl rfl rfl TF.agg29 rfl ?_) | (refine r_load1b 2 rfl rfl rfl TF.agg29 rfl ?_)
  refine r_assign rfl rfl ?_
  refine awl_nil ?_
  refine x_then ?_
  refine awp_ret ?_
  exact ⟨(.inl rfl), _, [⟨g, true, .buf 5 L cap 55⟩], (.one (by first | exact .mk rfl rfl | exact .nil rfl)), (.inr ⟨g, cap, n, L, hcn, rfl, hnL, rfl, hL⟩), (.cons_cons _ (List.nil_sublist _)), (by simp)⟩
theorem keyC : KeyEnc Try.prog 55 ekC := keyEnc_flat flat55 chV (fun _ _ => chV_inj) chV_kn
set_option maxHeartbeats 1000000 in
theorem way_walk (l m u : List Ac) : AC Try.prog 6 [.sl 6 (l.map Ac.cs), .sl 6 (m.map Ac.cs), .sl 6 (u.map Ac.cs)] [] (fun r n => n = [] ∧ r = boolA true) := by
 refine ac_of_awp (rs := [6]) (nt := 82) Try.func6 rfl rfl rfl rfl (fun w0 C0 hq => ?_)
 refine awp_seq ?_
 refine awp_region ?_
 refine r_assign rfl rfl ?_
 refine awl_nil ?_
 refine x_then ?_
 refine awp_seq ?_
 refine awp_seq ?_
 refine awp_region ?_
 refine r_call0 hq rfl rfl .nil (awake_ok) rfl TF.en11 rfl (fun r hr => ?_)
 obtain rfl := hr
 refine r_not rfl rfl ?_
 refine awl_nil ?_
 refine x_then ?_
 refine awp_cond rfl (fun hc0 => ?_) (fun hc0 => ?_)
 ·
  exfalso; cases hc0
 ·
  refine awp_skip ?_
  refine x_then ?_
  refine awp_seq ?_
  refine awp_seq ?_
  refine awp_region ?_
  refine r_move rfl rfl ?_
  first | (refine r_lenS rfl rfl TF.sl22 rfl ?_) | (refine r_lenNil rfl TF.sl22 rfl ?_) | (refine r_lenV rfl TF.sl22 rfl ?_)
  refine r_cmp rfl rfl rfl rfl ?_
  refine r_move rfl rfl ?_
  refine g_cases (t' := 23) rfl (fun hg23 => ?_) (fun hg23 => ?_)
  ·
   refine g_skip rfl rfl hg23 rfl ?_
   refine g_skip rfl rfl hg23 rfl ?_
   refine g_skip rfl rfl hg23 rfl ?_
   refine r_pickT rfl hg23 rfl rfl ?_
   refine r_move rfl rfl ?_
   refine g_skip rfl rfl rfl rfl ?_
   refine g_skip rfl rfl rfl rfl ?_
   refine g_skip rfl rfl rfl rfl ?_
   refine r_pickT rfl rfl rfl rfl ?_
   refine awl_nil ?_
   refine x_then ?_
   refine awp_condT rfl ?_
   refine awp_seq ?_
   refine awp_region ?_
   refine r_assign rfl rfl ?_
   refine awl_nil ?_
   refine x_then ?_
   refine awp_ret ?_
   refine x_thenR ?_
   exact ⟨(.inl rfl), _, [], (.one (by first | exact .mk rfl rfl | exact .nil rfl)), ⟨rfl, rfl⟩, (List.nil_sublist _), (by simp)⟩
  ·
   have hl_l : l.length ≤ 50 := by have := of_decide_eq_false hg23; simp at this; omega
   refine g_run rfl rfl hg23 ?_
   refine r_move rfl rfl ?_
   refine g_run rfl rfl hg23 ?_
   first | (refine r_lenS rfl rfl TF.sl22 rfl ?_) | (refine r_lenNil rfl TF.sl22 rfl ?_) | (refine r_lenV rfl TF.sl22 rfl ?_)
   refine g_run rfl rfl hg23 ?_
   refine r_cmp rfl rfl rfl rfl ?_
   refine r_pickF rfl hg23 rfl rfl ?_
   refine r_move rfl rfl ?_
   refine g_cases (t' := 28) rfl (fun hg28 => ?_) (fun hg28 => ?_)
   ·
    refine g_skip rfl rfl hg28 rfl ?_
    refine g_skip rfl rfl hg28 rfl ?_
    refine g_skip rfl rfl hg28 rfl ?_
    refine r_pickT rfl hg28 rfl rfl ?_
    refine awl_nil ?_
    refine x_then ?_
    refine awp_condT rfl ?_
    refine awp_seq ?_
    refine awp_region ?_
    refine r_assign rfl rfl ?_
    refine awl_nil ?_
    refine x_then ?_
    refine awp_ret ?_
    refine x_thenR ?_
    exact ⟨(.inl rfl), _, [], (.one (by first | exact .mk rfl rfl | exact .nil rfl)), ⟨rfl, rfl⟩, (List.nil_sublist _), (by simp)⟩
   ·
    have hl_m : m.length ≤ 30 := by have := of_decide_eq_false hg28; simp at this; omega
    refine g_run rfl rfl hg28 ?_
    refine r_move rfl rfl ?_
    refine g_run rfl rfl hg28 ?_
    first | (refine r_lenS rfl rfl TF.sl22 rfl ?_) | (refine r_lenNil rfl TF.sl22 rfl ?_) | (refine r_lenV rfl TF.sl22 rfl ?_)
    refine g_run rfl rfl hg28 ?_
    refine r_cmp rfl rfl rfl rfl ?_
    refine r_pickF rfl hg28 rfl rfl ?_
    refine awl_nil ?_
    refine x_then ?_
    refine awp_cond rfl (fun hc1 => ?_) (fun hc1 => ?_)
    ·
     refine awp_seq ?_
     refine awp_region ?_
     refine r_assign rfl rfl ?_
     refine awl_nil ?_
     refine x_then ?_
     refine awp_ret ?_
     refine x_thenR ?_
     exact ⟨(.inl rfl), _, [], (.one (by first | exact .mk rfl rfl | exact .nil rfl)), ⟨rfl, rfl⟩, (List.nil_sublist _), (by simp)⟩
    ·
     have hl_u : u.length ≤ 30 := by have := of_decide_eq_false hc1; simp at this; omega
     refine awp_skip ?_
     refine x_then ?_
     refine awp_seq ?_
     refine awp_region ?_
     refine r_call0 hq rfl rfl .nil (New_ok) rfl TF.en13 rfl (fun r hr => ?_)
     obtain rfl := hr
     refine r_move rfl rfl ?_
     refine r_call0 hq rfl rfl (.cons (.ev rfl rfl) (.cons (.nil rfl) (.cons (.ev rfl rfl) .nil))) (play_ok (some (none, 0)) [] good_new l (by simp; omega)) rfl TF.en12 rfl (fun r hr => ?_)
     obtain ⟨ta, hgta, rfl⟩ := hr
     have hp_X := refPlay_len [] l
     try simp only [List.length_nil, Nat.zero_add] at hp_X
     generalize refPlay [] l = X at hgta hp_X ⊢
     refine r_move rfl rfl ?_
     refine r_extract rfl rfl rfl ?_
     refine r_extract rfl rfl rfl ?_
     refine r_assign rfl rfl ?_
     refine r_assign rfl rfl ?_
     refine awl_nil ?_
     refine x_then ?_
     refine awp_seq ?_
     refine awp_region ?_
     refine r_move rfl rfl ?_
     refine r_move rfl rfl ?_
     refine r_move rfl rfl ?_
     refine r_call0 hq rfl rfl (.cons (.ev rfl rfl) (.cons (.ev rfl rfl) (.cons (.ev rfl rfl) .nil))) (play_ok ta X hgta m (by omega)) rfl TF.en12 rfl (fun r hr => ?_)
     obtain ⟨tb, hgtb, rfl⟩ := hr
     have hp_Y := refPlay_len X m
     try simp only [List.length_nil, Nat.zero_add] at hp_Y
     generalize refPlay X m = Y at hgtb hp_Y ⊢
     refine r_move rfl rfl ?_
     refine r_extract rfl rfl rfl ?_
     refine r_extract rfl rfl rfl ?_
     refine r_assign rfl rfl ?_
     refine r_assign rfl rfl ?_
     refine awl_nil ?_
     refine x_then ?_
     refine awp_seq ?_
     refine awp_region ?_
     refine r_move rfl rfl ?_
     refine r_move rfl rfl ?_
     refine r_move rfl rfl ?_
     refine r_call0 hq rfl rfl (.cons (.ev rfl rfl) (.cons (.ev rfl rfl) (.cons (.ev rfl rfl) .nil))) (play_ok tb Y hgtb u (by omega)) rfl TF.en12 rfl (fun r hr => ?_)
     obtain ⟨tc, hgtc, rfl⟩ := hr
     have hp_Z := refPlay_len Y u
     try simp only [List.length_nil, Nat.zero_add] at hp_Z
     generalize refPlay Y u = Z at hgtc hp_Z ⊢
     refine r_move rfl rfl ?_
     refine r_extract rfl rfl rfl ?_
     refine r_extract rfl rfl rfl ?_
     refine r_assign rfl rfl ?_
     refine r_assign rfl rfl ?_
     refine awl_nil ?_
     refine x_then ?_
     refine awp_seq ?_
     refine awp_region ?_
     refine r_makeMap (ek := ekC) (ev := boolA) [] rfl rfl (fun b53 => ?_)
     refine r_assign rfl rfl ?_
     refine awl_nil ?_
     refine x_then ?_
     refine awp_seq ?_
     refine awp_seq ?_
     refine awp_region ?_
     refine awl_fact (φ := Coh ta tb) (fun C T a w hs => coh_of hgta.wf hgtb.wf (hs.slots 7 (.a (encT ta)) rfl) (hs.slots 9 (.a (encT tb)) rfl)) (fun hc12 => ?_)
     refine awl_fact (φ := Coh tb tc) (fun C T a w hs => coh_of hgtb.wf hgtc.wf (hs.slots 9 (.a (encT tb)) rfl) (hs.slots 11 (.a (encT tc)) rfl)) (fun hc23 => ?_)
     refine awl_fact (φ := Coh ta tc) (fun C T a w hs => coh_of hgta.wf hgtc.wf (hs.slots 7 (.a (encT ta)) rfl) (hs.slots 11 (.a (encT tc)) rfl)) (fun hc13 => ?_)
     have h12 := chg_ref hc12 hgta hgtb
     have h23 := chg_ref hc23 hgtb hgtc
     have h13 := chg_ref hc13 hgta hgtc
     have l12 := refBtw_len X Y
     have l23 := refBtw_len Y Z
     have l13 := refBtw_len X Z
     rw [← h12] at l12
     rw [← h23] at l23
     rw [← h13] at l13
     have hway : ∀ z ∈ chg ta tc, z ∈ chg ta tb ++ chg tb tc := fun z hz => by rw [h12, h23]; rw [h13] at hz; exact btw_way hz
     refine r_move rfl rfl ?_
     refine r_move rfl rfl ?_
     refine r_callO hq rfl rfl (.cons (.ev rfl rfl) (.cons (.ev rfl rfl) (.cons (.ev rfl rfl) .nil))) (told_own ta tb hgta.wf hgtb.wf (good_ids hgta (x := X) (by omega)) (good_ids hgtb (x := Y) (by omega)) (two_keys hgta hgtb) 1000 (by omega) (by omega)) rfl TF.en16 (by first | exact List.Sublist.refl _ | exact .cons_cons _ (.cons _ (.refl _)) | exact List.nil_sublist _ | exact .cons _ (.refl _) | exact .cons _ (.cons _ (.refl _)) | exact .cons _ (.cons _ (.cons _ (.refl _))) | exact .cons _ (.cons _ (.cons _ (.cons _ (.refl _)))) | exact .cons_cons _ (List.nil_sublist _)) rfl (fun r nobjs hr => ?_)
     have hR1 := hr
     refine r_move rfl rfl ?_
     refine r_move rfl rfl ?_
     refine r_callO hq rfl rfl (.cons (.ev rfl rfl) (.cons (.ev rfl rfl) (.cons (.ev rfl rfl) .nil))) (told_own tb tc hgtb.wf hgtc.wf (good_ids hgtb (x := Y) (by omega)) (good_ids hgtc (x := Z) (by omega)) (two_keys hgtb hgtc) 1000 (by omega) (by omega)) rfl TF.en16 (by first | exact List.Sublist.refl _ | exact .cons_cons _ (.cons _ (.refl _)) | exact List.nil_sublist _ | exact .cons _ (.refl _) | exact .cons _ (.cons _ (.refl _)) | exact .cons _ (.cons _ (.cons _ (.refl _))) | exact .cons _ (.cons _ (.cons _ (.cons _ (.refl _)))) | exact .cons_cons _ (List.nil_sublist _)) rfl (fun r nobjs hr => ?_)
     have hR2 := hr
     refine r_appendRC (r' := [⟨b53, true, .map (encM ekC boolA (setC []))⟩]) rfl rfl hR1 hR2 (List.perm_append_comm_assoc _ _ _) TF.sl29 TF.sz55 TF.by55 TF.zlen55 (by rw [List.length_take, List.length_take]; omega) (by rw [List.length_take, List.length_take]; omega) rfl (fun r os hR => ?_)
     refine awl_imp (imp_commitRC 60 hR rfl rfl) ?_
     generalize hW : ((chg ta tb).take (1000 : Int).toNat ++ (chg tb tc).take (1000 : Int).toNat) = W
     have hWl : W.length ≤ 1000 := by rw [← hW, List.length_append, List.length_take, List.length_take]; omega
     first | (refine r_lenS rfl rfl TF.sl29 rfl ?_) | (refine r_lenNil rfl TF.sl29 rfl ?_) | (refine r_lenV rfl TF.sl29 rfl ?_)
     refine r_move rfl rfl ?_
     refine awl_nil ?_
     refine x_then ?_
     refine awp_block ?_
     refine awp_loop (fun nn0 S => ∃ i : Nat, S = ⟨82, [(7, .a (encT ta)), (9, .a (encT tb)), (11, .a (encT tc)), (13, .a (.v (.map (some b53)))), (60, .a (.sl 5 (W.map chC))), (61, .a (.v (.int .i64 (((W.map chC).length : Nat))))), (62, .a (.v (.int .i64 ((i : Int)))))], [⟨b53, true, .map (encM ekC boolA (setC (W.take i)))⟩]⟩ ∧ nn0 = W.length - i ∧ (i ≤ W.length)) (W.length - (0)) ⟨82, [(7, .a (encT ta)), (9, .a (encT tb)), (11, .a (encT tc)), (13, .a (.v (.map (some b53)))), (60, .a (.sl 5 (W.map chC))), (61, .a (.v (.int .i64 (((W.map chC).length : Nat))))), (62, .a (.v (.int .i64 (((0) : Int)))))], [⟨b53, true, .map (encM ekC boolA (setC (W.take (0))))⟩]⟩ ⟨rfl, (Slots.cons rfl (by first | exact .refl _ | exact .nilOwn _ _ | exact .nilSl _ | exact .ownSl _ _ _  | exact SV.le.of_eq (by simp)) (Slots.cons rfl (by first | exact .refl _ | exact .nilOwn _ _ | exact .nilSl _ | exact .ownSl _ _ _  | exact SV.le.of_eq (by simp)) (Slots.cons rfl (by first | exact .refl _ | exact .nilOwn _ _ | exact .nilSl _ | exact .ownSl _ _ _  | exact SV.le.of_eq (by simp)) (Slots.cons rfl (by first | exact .refl _ | exact .nilOwn _ _ | exact .nilSl _ | exact .ownSl _ _ _  | exact SV.le.of_eq (by simp)) (Slots.cons rfl (by first | exact .refl _ | exact .nilOwn _ _ | exact .nilSl _ | exact .ownSl _ _ _  | exact SV.le.of_eq (by simp)) (Slots.cons rfl (by first | exact .refl _ | exact .nilOwn _ _ | exact .nilSl _ | exact .ownSl _ _ _  | exact SV.le.of_eq (by simp)) (Slots.cons rfl (by first | exact .refl _ | exact .nilOwn _ _ | exact .nilSl _ | exact .ownSl _ _ _  | exact SV.le.of_eq (by simp)) Slots.nil))))))), (by first | exact List.Sublist.refl _ | exact .cons_cons _ (.cons _ (.refl _)) | exact List.nil_sublist _ | exact .cons _ (.refl _) | exact .cons _ (.cons _ (.refl _)) | exact .cons _ (.cons _ (.cons _ (.refl _))) | exact .cons _ (.cons _ (.cons _ (.cons _ (.refl _)))) | exact .cons_cons _ (List.nil_sublist _))⟩ ⟨0, rfl, rfl, Nat.zero_le _⟩ ?_
     rintro nn0 _ ⟨i, rfl, rfl, hi⟩
     refine awp_seq ?_
     refine awp_region ?_
     refine r_cmp rfl rfl rfl rfl ?_
     refine awl_nil ?_
     refine x_then ?_
     refine awp_seq ?_
     refine awp_cond rfl (fun hc2 => ?_) (fun hc2 => ?_)
     ·
      have hltz : i < W.length := by have := of_decide_eq_true hc2; simpa using this
      obtain ⟨z, hz⟩ := get_lt hltz
      refine awp_skip ?_
      refine x_then ?_
      refine awp_seq ?_
      refine awp_block ?_
      refine awp_seq ?_
      refine awp_region ?_
      refine r_index rfl rfl rfl TF.sl29 TF.sz55 (by omega) (get_map hz) rfl ?_
      first | (refine r_loadAb 0 rfl rfl TF.agg55 TF.sz55 rfl rfl ?_) | (refine r_loadA rfl TF.agg55 TF.sz55 rfl rfl ?_)
      refine r_alloc TF.zero55 rfl (fun b15 => ?_)
      first | (refine r_store 0 rfl rfl rfl TF.sz55 rfl rfl rfl ?_) | (refine r_store 1 rfl rfl rfl TF.sz55 rfl rfl rfl ?_)
      refine awl_nil ?_
      refine x_then ?_
      refine awp_region ?_
      refine r_move rfl rfl ?_
      first | (refine r_loadAb 0 rfl rfl TF.agg55 TF.sz55 rfl rfl ?_) | (refine r_loadA rfl TF.agg55 TF.sz55 rfl rfl ?_) | (refine r_loadAb 1 rfl rfl TF.agg55 TF.sz55 rfl rfl ?_)
      first | (refine r_mapUpdateK 0 keyC (ev := boolA) (k := z) _ rfl rfl rfl (isVal_ch z) rfl rfl TF.map53 ?_) | (refine r_mapUpdateK 1 keyC (ev := boolA) (k := z) _ rfl rfl rfl (isVal_ch z) rfl rfl TF.map53 ?_)
      refine awl_nil ?_
      refine x_block ?_
      refine x_then ?_
      refine awp_region ?_
      refine r_ari _ rfl rfl rfl (wrap_id (by first | omega | (simp; omega))) rfl ?_
      refine r_move rfl rfl ?_
      refine awl_nil ?_
      refine x_then ?_
      refine ⟨W.length - (i + 1), ⟨82, [(7, .a (encT ta)), (9, .a (encT tb)), (11, .a (encT tc)), (13, .a (.v (.map (some b53)))), (60, .a (.sl 5 (W.map chC))), (61, .a (.v (.int .i64 (((W.map chC).length : Nat))))), (62, .a (.v (.int .i64 (((i + 1) : Int)))))], [⟨b53, true, .map (encM ekC boolA (setC (W.take (i + 1))))⟩]⟩, ⟨rfl, (Slots.cons rfl (by first | exact .refl _ | exact .nilOwn _ _ | exact .nilSl _ | exact .ownSl _ _ _  | exact SV.le.of_eq (by simp)) (Slots.cons rfl (by first | exact .refl _ | exact .nilOwn _ _ | exact .nilSl _ | exact .ownSl _ _ _  | exact SV.le.of_eq (by simp)) (Slots.cons rfl (by first | exact .refl _ | exact .nilOwn _ _ | exact .nilSl _ | exact .ownSl _ _ _  | exact SV.le.of_eq (by simp)) (Slots.cons rfl (by first | exact .refl _ | exact .nilOwn _ _ | exact .nilSl _ | exact .ownSl _ _ _  | exact SV.le.of_eq (by simp)) (Slots.cons rfl (by first | exact .refl _ | exact .nilOwn _ _ | exact .nilSl _ | exact .ownSl _ _ _  | exact SV.le.of_eq (by simp)) (Slots.cons rfl (by first | exact .refl _ | exact .nilOwn _ _ | exact .nilSl _ | exact .ownSl _ _ _  | exact SV.le.of_eq (by simp)) (Slots.cons rfl (by first | exact .refl _ | exact .nilOwn _ _ | exact .nilSl _ | exact .ownSl _ _ _  | exact SV.le.of_eq (by simp)) Slots.nil))))))), (by rw [setC_snoc hz]; first | exact List.Sublist.refl _ | exact .cons_cons _ (.cons _ (.refl _)) | exact List.nil_sublist _ | exact .cons _ (.refl _) | exact .cons _ (.cons _ (.refl _)) | exact .cons _ (.cons _ (.cons _ (.refl _))) | exact .cons _ (.cons _ (.cons _ (.cons _ (.refl _)))) | exact .cons_cons _ (List.nil_sublist _))⟩, (by omega), ⟨i + 1, rfl, rfl, (by omega)⟩⟩
     ·
      have hge : W.length ≤ i := by have := of_decide_eq_false hc2; simp at this; omega
      obtain rfl : i = W.length := by omega
      rw [List.take_length]
      refine awp_exit ?_
      refine x_thenE ?_
      refine x_thenE ?_
      refine x_blockE ?_
      refine x_then ?_
      refine awp_seq ?_
      refine awp_seq ?_
      refine awp_region ?_
      refine r_move rfl rfl ?_
      refine r_move rfl rfl ?_
      refine r_call0 hq rfl rfl (.cons (.ev rfl rfl) (.cons (.ev rfl rfl) (.cons (.ev rfl rfl) .nil))) (told_ok ta tc hgta.wf hgtc.wf (good_ids hgta (x := X) (by omega)) (good_ids hgtc (x := Z) (by omega)) (two_keys hgta hgtc) 1000 (by omega) (by omega)) rfl TF.en16 rfl (fun r hr => ?_)
      obtain rfl := hr
      generalize hV : ((chg ta tc).take (1000 : Int).toNat) = V
      have hVl : V.length ≤ 1000 := by rw [← hV, List.length_take]; omega
      first | (refine r_lenS rfl rfl TF.sl29 rfl ?_) | (refine r_lenNil rfl TF.sl29 rfl ?_) | (refine r_lenV rfl TF.sl29 rfl ?_)
      refine r_move rfl rfl ?_
      refine awl_nil ?_
      refine x_then ?_
      refine awp_block ?_
      refine awp_loop (fun nn0 S => ∃ i : Nat, S = ⟨82, [(13, .a (.v (.map (some b53)))), (71, .a (.sl 5 (V.map chC))), (72, .a (.v (.int .i64 (((V.map chC).length : Nat))))), (73, .a (.v (.int .i64 ((i : Int)))))], [⟨b53, true, .map (encM ekC boolA (setC W))⟩]⟩ ∧ nn0 = V.length - i ∧ (i ≤ V.length)) (V.length - (0)) ⟨82, [(13, .a (.v (.map (some b53)))), (71, .a (.sl 5 (V.map chC))), (72, .a (.v (.int .i64 (((V.map chC).length : Nat))))), (73, .a (.v (.int .i64 (((0) : Int)))))], [⟨b53, true, .map (encM ekC boolA (setC W))⟩]⟩ ⟨rfl, (Slots.cons rfl (by first | exact .refl _ | exact .nilOwn _ _ | exact .nilSl _ | exact .ownSl _ _ _  | exact SV.le.of_eq (by simp)) (Slots.cons rfl (by first | exact .refl _ | exact .nilOwn _ _ | exact .nilSl _ | exact .ownSl _ _ _  | exact SV.le.of_eq (by simp)) (Slots.cons rfl (by first | exact .refl _ | exact .nilOwn _ _ | exact .nilSl _ | exact .ownSl _ _ _  | exact SV.le.of_eq (by simp)) (Slots.cons rfl (by first | exact .refl _ | exact .nilOwn _ _ | exact .nilSl _ | exact .ownSl _ _ _  | exact SV.le.of_eq (by simp)) Slots.nil)))), (by first | exact List.Sublist.refl _ | exact .cons_cons _ (.cons _ (.refl _)) | exact List.nil_sublist _ | exact .cons _ (.refl _) | exact .cons _ (.cons _ (.refl _)) | exact .cons _ (.cons _ (.cons _ (.refl _))) | exact .cons _ (.cons _ (.cons _ (.cons _ (.refl _)))) | exact .cons_cons _ (List.nil_sublist _))⟩ ⟨0, rfl, rfl, Nat.zero_le _⟩ ?_
      rintro nn0 _ ⟨i, rfl, rfl, hi⟩
      refine awp_seq ?_
      refine awp_region ?_
      refine r_cmp rfl rfl rfl rfl ?_
      refine awl_nil ?_
      refine x_then ?_
      refine awp_seq ?_
      refine awp_cond rfl (fun hc3 => ?_) (fun hc3 => ?_)
      ·
       have hltz : i < V.length := by have := of_decide_eq_true hc3; simpa using this
       obtain ⟨z, hz⟩ := get_lt hltz
       have hzin : z ∈ W := by rw [← hW, List.take_of_length_le (by show _ ≤ 1000; omega), List.take_of_length_le (by show _ ≤ 1000; omega)]; have h := List.mem_of_getElem? hz; rw [← hV] at h; exact hway z (List.mem_of_mem_take h)
       refine awp_skip ?_
       refine x_then ?_
       refine awp_seq ?_
       refine awp_block ?_
       refine awp_seq ?_
       refine awp_region ?_
       refine r_index rfl rfl rfl TF.sl29 TF.sz55 (by omega) (get_map hz) rfl ?_
       first | (refine r_loadAb 0 rfl rfl TF.agg55 TF.sz55 rfl rfl ?_) | (refine r_loadA rfl TF.agg55 TF.sz55 rfl rfl ?_)
       refine r_alloc TF.zero55 rfl (fun b17 => ?_)
       first | (refine r_store 0 rfl rfl rfl TF.sz55 rfl rfl rfl ?_) | (refine r_store 1 rfl rfl rfl TF.sz55 rfl rfl rfl ?_)
       refine awl_nil ?_
       refine x_then ?_
       refine awp_seq ?_
       refine awp_region ?_
       refine r_move rfl rfl ?_
       first | (refine r_loadAb 0 rfl rfl TF.agg55 TF.sz55 rfl rfl ?_) | (refine r_loadA rfl TF.agg55 TF.sz55 rfl rfl ?_) | (refine r_loadAb 1 rfl rfl TF.agg55 TF.sz55 rfl rfl ?_)
       first | (refine r_lookupK 0 keyC (ev := boolA) (k := z) false rfl rfl rfl (isVal_ch z) TF.map53 TF.zav4 rfl ?_) | (refine r_lookupK 1 keyC (ev := boolA) (k := z) false rfl rfl rfl (isVal_ch z) TF.map53 TF.zav4 rfl ?_)
       refine r_not rfl rfl ?_
       refine awl_nil ?_
       refine x_then ?_
       refine awp_cond rfl (fun hc4 => ?_) (fun hc4 => ?_)
       ·
        exfalso; rw [setC_get, decide_eq_true hzin] at hc4; cases hc4
       ·
        refine awp_skip ?_
        refine x_block ?_
        refine x_then ?_
        refine awp_region ?_
        refine r_ari _ rfl rfl rfl (wrap_id (by first | omega | (simp; omega))) rfl ?_
        refine r_move rfl rfl ?_
        refine awl_nil ?_
        refine x_then ?_
        refine ⟨V.length - (i + 1), ⟨82, [(13, .a (.v (.map (some b53)))), (71, .a (.sl 5 (V.map chC))), (72, .a (.v (.int .i64 (((V.map chC).length : Nat))))), (73, .a (.v (.int .i64 (((i + 1) : Int)))))], [⟨b53, true, .map (encM ekC boolA (setC W))⟩]⟩, ⟨rfl, (Slots.cons rfl (by first | exact .refl _ | exact .nilOwn _ _ | exact .nilSl _ | exact .ownSl _ _ _  | exact SV.le.of_eq (by simp)) (Slots.cons rfl (by first | exact .refl _ | exact .nilOwn _ _ | exact .nilSl _ | exact .ownSl _ _ _  | exact SV.le.of_eq (by simp)) (Slots.cons rfl (by first | exact .refl _ | exact .nilOwn _ _ | exact .nilSl _ | exact .ownSl _ _ _  | exact SV.le.of_eq (by simp)) (Slots.cons rfl (by first | exact .refl _ | exact .nilOwn _ _ | exact .nilSl _ | exact .ownSl _ _ _  | exact SV.le.of_eq (by simp)) Slots.nil)))), (by first | exact List.Sublist.refl _ | exact .cons_cons _ (.cons _ (.refl _)) | exact List.nil_sublist _ | exact .cons _ (.refl _) | exact .cons _ (.cons _ (.refl _)) | exact .cons _ (.cons _ (.cons _ (.refl _))) | exact .cons _ (.cons _ (.cons _ (.cons _ (.refl _)))) | exact .cons_cons _ (List.nil_sublist _))⟩, (by omega), ⟨i + 1, rfl, rfl, (by omega)⟩⟩
      ·
       refine awp_exit ?_
       refine x_thenE ?_
       refine x_thenE ?_
       refine x_blockE ?_
       refine x_then ?_
       refine awp_seq ?_
       refine awp_region ?_
       refine r_assign rfl rfl ?_
       refine awl_nil ?_
       refine x_then ?_
       refine awp_ret ?_
       exact ⟨(.inl rfl), _, [], (.one (by first | exact .mk rfl rfl | exact .nil rfl)), ⟨rfl, rfl⟩, (List.nil_sublist _), (by simp)⟩
end Go.Proofs.Ytljgdbgcleibjaa.A

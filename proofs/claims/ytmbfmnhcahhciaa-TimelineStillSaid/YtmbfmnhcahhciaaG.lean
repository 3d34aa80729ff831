/- The rules of a walk over abstract states: maps, calls, code, functions. -/
import Derived.Test.YtmbfmnhcahhciaaF
namespace Go.Proofs.Ytmbfmnhcahhciaa.A
open Go Go.RowKit
set_option linter.unusedVariables false
set_option linter.unusedSimpArgs false
set_option linter.unusedSectionVars false
set_option linter.unnecessarySimpa false
variable {P : Program} {w0 : Base} {C0 C : CS} {T : TS} {S S' : AState} {a : Act} {w : World} {ops : Array Oper} {rest : List Oper} {o : Oper} {Q : Exit → AState → Prop}
variable {t : Nat} {ty ty' : TypeId} {pos : String} {aft : Array Edge}

/-! ### maps, as lists of pairs -/
section
variable {K α : Type} [DecidableEq K]
def mget : List (K × α) → K → Option α
  | [], _ => none
  | (x, v) :: r, k => if x = k then some v else mget r k
def mset : List (K × α) → K → α → List (K × α)
  | [], k, v => [(k, v)]
  | (x, u) :: r, k, v => if x = k then (k, v) :: r else (x, u) :: mset r k v
def mdel : List (K × α) → K → List (K × α)
  | [], _ => []
  | (x, u) :: r, k => if x = k then r else (x, u) :: mdel r k
def mfind : List K → K → Option Nat
  | [], _ => none
  | x :: r, k => if x = k then some 0 else (mfind r k).map (· + 1)
theorem mfind_get : ∀ (m : List (K × α)) (k : K), mget m k = (mfind (m.map (·.1)) k).bind fun i => (m[i]?).map (·.2)
  | [], k => rfl
  | (x, v) :: r, k => by
    unfold mget
    by_cases h : x = k
    · simp [mfind, h]
    · simp only [h, if_false, List.map_cons, mfind, mfind_get r k]
      cases mfind (r.map (·.1)) k <;> simp
theorem mfind_set_none : ∀ (m : List (K × α)) (k : K) (v : α), mfind (m.map (·.1)) k = none → mset m k v = m ++ [(k, v)]
  | [], k, v, _ => rfl
  | (x, u) :: r, k, v, h => by
    by_cases hx : x = k
    · simp [mfind, hx] at h
    · simp [mfind, hx] at h
      simp [mset, hx, mfind_set_none r k v (by simpa using h)]
theorem mfind_set_some : ∀ (m : List (K × α)) (k : K) (v : α) (i : Nat), mfind (m.map (·.1)) k = some i → i < m.length ∧ (m.map (·.1))[i]? = some k ∧ mset m k v = m.set i (k, v)
  | [], k, v, i, h => by simp [mfind] at h
  | (x, u) :: r, k, v, i, h => by
    by_cases hx : x = k
    · simp [mfind, hx] at h
      subst h; subst hx; simp [mset]
    · cases hr : mfind (r.map (·.1)) k with
      | none => simp [mfind, hx, hr] at h
      | some j =>
        simp [mfind, hx, hr] at h
        subst h
        obtain ⟨h1, h2, h3⟩ := mfind_set_some r k v j hr
        exact ⟨by simp; omega, by simpa using h2, by simp [mset, hx, h3]⟩
end

/-- keys of one kind, as the machine finds them -/
structure KeyEnc (P : Program) (kt : TypeId) {K : Type} [DecidableEq K] (ek : K → Value) : Prop where
  check : ∀ (e : Bool) (k : K) (w : World), (Instr.checkKey e 10000 kt (ek k)).run P w = .ok () w
  find : ∀ (ents : List MapEntry) (ks : List K) (k : K) (w : World), ents.map (·.key) = ks.map ek →
    (Instr.findKey kt (ek k) ents).run P w = .ok ((mfind ks k).bind fun i => (ents[i]?).map fun e => (i, e.val)) w
  stay : ∀ (k : K) (w : World), (Instr.keyThatStays (ek k) (ek k)).run P w = .ok (ek k) w

theorem findNow_gen {K : Type} [DecidableEq K] {d : TypeDesc} {ek : K → Value} (hs : ∀ a b : K, Instr.sameNow d (ek a) (ek b) = some (decide (b = a))) (k : K) :
    ∀ (ents : List MapEntry) (ks : List K) (i0 : Nat), ents.map (·.key) = ks.map ek → Instr.findNow d (ek k) ents i0 = some ((mfind ks k).bind fun i => (ents[i]?).map fun e => (i0 + i, e.val))
  | [], [], i0, _ => rfl
  | [], _ :: _, _, h => by simp at h
  | _ :: _, [], _, h => by simp at h
  | e :: es, x :: ks, i0, h => by
    simp only [List.map_cons, List.cons.injEq] at h
    unfold Instr.findNow
    rw [h.1, hs]
    by_cases hx : x = k
    · simp [mfind, hx]
    · simp only [hx, decide_false]
      rw [findNow_gen hs k es ks (i0 + 1) h.2]
      cases hm : mfind ks k with
      | none => simp [mfind, hx, hm]
      | some i => simp [mfind, hx, hm, Nat.add_assoc, Nat.add_comm 1 i]
theorem keyEnc_of_now {K : Type} [DecidableEq K] {kt : TypeId} {d : TypeDesc} {ek : K → Value} (hd : P.underlying kt = some d) (hs : ∀ a b : K, Instr.sameNow d (ek a) (ek b) = some (decide (b = a)))
    (hc : ∀ (e : Bool) (k : K) (w : World), (Instr.checkKey e 10000 kt (ek k)).run P w = .ok () w) (hst : ∀ k : K, Instr.sameBits 10000 (ek k) (ek k) = true) : KeyEnc P kt ek where
  check := hc
  find := fun ents ks k w h => by
    have := findNow_gen hs k ents ks 0 h
    simp only [Nat.zero_add] at this
    simp [Instr.findKey, run_underlying hd, this]
  stay := fun k w => by simp [Instr.keyThatStays, hst]

theorem ba_beq (a b : ByteArray) : (a == b) = decide (a = b) := by
  have h : (a == b) = (a.data == b.data) := rfl
  rw [h]
  by_cases e : a = b
  · subst e; simp
  · have : ¬ a.data = b.data := fun e' => e (ByteArray.ext e')
    simp [e, this]
theorem keyEnc_string {kt : TypeId} (hd : P.underlying kt = some .string) : KeyEnc P kt Value.string := by
  refine keyEnc_of_now hd (fun a b => ?_) (fun e k w => ?_) (fun k => ?_)
  · simp only [Instr.sameNow, Option.some.injEq, ba_beq]
    by_cases h : b = a
    · subst h; simp
    · have h' : ¬ a = b := fun e => h e.symm
      simp [h, h']
  · exact MapKept.run_checkKey hd (by simp [MapKept.IsKey]) e 9999
  · simp [Instr.sameBits, ba_beq]
theorem keyEnc_int {kt : TypeId} {q : IntKind} (hd : P.underlying kt = some (.int q)) : KeyEnc P kt (Value.int q) := by
  refine keyEnc_of_now hd (fun a b => ?_) (fun e k w => ?_) (fun k => ?_)
  · simp only [Instr.sameNow, if_true, Option.some.injEq]
    by_cases h : b = a
    · subst h; simp
    · have h' : ¬ a = b := fun e => h e.symm
      simp [h, h']
  · exact MapKept.run_checkKey hd (by simp [MapKept.IsKey]) e 9999
  · simp [Instr.sameBits]

section
variable {K α : Type} [DecidableEq K] {ek : K → Value} {ev : α → AV} {kt et : TypeId}
def encM (ek : K → Value) (ev : α → AV) (m : List (K × α)) : List (Value × AV) := m.map fun p => (ek p.1, ev p.2)
def mapT (P : Program) (t : TypeId) : Option (TypeId × TypeId) := match P.underlying t with | some (.map k e) => some (k, e) | _ => none
theorem mapT_un {t : TypeId} (h : mapT P t = some (kt, et)) : P.underlying t = some (.map kt et) := by unfold mapT at h; split at h <;> simp_all
def zeroAV (P : Program) (t : TypeId) : Option AV :=
  match (P.info? t).bind (·.zero) with
  | some (.agg cs) => some (.agg (cs.toList.map .v))
  | some v => some (.v v)
  | none => none
theorem run_zeroAV {x : AV} (h : zeroAV P et = some x) (w : World) (C : CS) : ∃ z, (zeroValue et).run P w = .ok z w ∧ Rel C x z := by
  unfold zeroAV at h
  cases hi : P.info? et with
  | none => simp [hi] at h
  | some i =>
    cases hz : i.zero with
    | none => simp [hi, hz] at h
    | some z =>
      refine ⟨z, by simp [zeroValue, typeInfo, hi, hz], ?_⟩
      cases z <;> simp [hi, hz] at h <;> subst h <;> first | exact Rel.v _ | exact rel_agg.2 (rels_vs _)

theorem run_getMap {b : Nat} {es : Array MapEntry} {c : Nat} (h : w.heap[b]? = some (.map es c)) : (Go.getObj b).run P w = .ok (.map es c) w := by simp [Go.getObj, Sem.run, h]
theorem run_setMap {b : Nat} {es : Array MapEntry} {c : Nat} {o : Obj} (h : w.heap[b]? = some (.map es c)) : (Go.setObj b o).run P w = .ok () { w with heap := w.heap.setIfInBounds b o } := by simp [Go.setObj, Sem.run, h]
def ZeroAV (P : Program) (t : TypeId) (x : AV) : Prop := ∃ x0, zeroAV P t = some x0 ∧ LeA x0 x
theorem ZeroAV.run {x : AV} (h : ZeroAV P et x) (w : World) (C : CS) : ∃ z, (zeroValue et).run P w = .ok z w ∧ Rel C x z := by
  obtain ⟨x0, h1, h2⟩ := h
  obtain ⟨z, h3, h4⟩ := run_zeroAV h1 w C
  exact ⟨z, h3, h2.rel h4⟩
theorem map_ents {b : Nat} {m : List (K × α)} (h : ObjRel C b (.map (encM ek ev m)) w) :
    ∃ ents clock, w.heap[b]? = some (.map ents clock) ∧ ents.toList.map (·.key) = (m.map (·.1)).map ek ∧ Rels C (m.map fun p => ev p.2) (ents.toList.map (·.val))
      ∧ (ents.toList.map (·.born)).Pairwise (· < ·) ∧ ∀ e ∈ ents.toList, e.born < clock := by
  obtain ⟨ents, clock, h1, h2, h3, h4⟩ := h
  exact ⟨ents, clock, h1, by rw [h2, encM]; simp, by have := h3; rw [encM, List.map_map] at this; exact this, h4⟩

theorem run_look (KE : KeyEnc P kt ek) {mt : TypeId} (hmt : mapT P mt = some (kt, et)) {b : Nat} {m : List (K × α)} (h : ObjRel C b (.map (encM ek ev m)) w) (k : K) (z : α) (hz : ZeroAV P et (ev z)) :
    ∃ u, Rel C (ev ((mget m k).getD z)) u ∧ (Instr.lookup mt (.map (some b)) (ek k) false).run P w = .ok u w ∧ (Instr.lookup mt (.map (some b)) (ek k) true).run P w = .ok (.tuple #[u, .bool (mget m k).isSome]) w := by
  obtain ⟨ents, clock, h1, h2, h3, _⟩ := map_ents h
  have hf := KE.find ents.toList (m.map (·.1)) k w h2
  have hc := fun e => KE.check e k w
  rw [mfind_get m k]
  cases hm : mfind (m.map (·.1)) k with
  | none =>
    obtain ⟨zv, hz1, hz2⟩ := hz.run w C
    refine ⟨zv, by simpa using hz2, ?_, ?_⟩ <;>
    simp [Instr.lookup, run_underlying (mapT_un hmt), run_getMap h1, hc, hf, hm, hz1]
  | some i =>
    obtain ⟨hi, hk, _⟩ := mfind_set_some m k z i hm
    have hil : i < ents.toList.length := by have := congrArg List.length h2; simp at this; simp; omega
    have hmi : m[i]? = some m[i] := List.getElem?_eq_getElem hi
    have hei : ents.toList[i]? = some ents.toList[i] := List.getElem?_eq_getElem hil
    have hei' : ents[i]? = some ents.toList[i] := by simpa using hei
    refine ⟨(ents.toList[i]).val, ?_, ?_, ?_⟩
    · simp only [hmi, Option.bind_some, Option.map_some, Option.getD_some]
      exact h3.2 i _ _ (by simp [hmi]) (by simp [hei])
    · simp [Instr.lookup, run_underlying (mapT_un hmt), run_getMap h1, hc, hf, hm, hei']
    · simp [Instr.lookup, run_underlying (mapT_un hmt), run_getMap h1, hc, hf, hm, hei', hmi]

theorem run_upd (KE : KeyEnc P kt ek) {mt : TypeId} (hmt : mapT P mt = some (kt, et)) {b : Nat} {m : List (K × α)} (h : ObjRel C b (.map (encM ek ev m)) w) (k : K) (x : α) {u : Value} (hu : Rel C (ev x) u) :
    ∃ ents' clock', (Instr.mapUpdate mt (.map (some b)) (ek k) u).run P w = .ok () { w with heap := w.heap.setIfInBounds b (.map ents' clock') } ∧
      ents'.toList.map (·.key) = (encM ek ev (mset m k x)).map (·.1) ∧ Rels C ((encM ek ev (mset m k x)).map (·.2)) (ents'.toList.map (·.val)) ∧ (ents'.toList.map (·.born)).Pairwise (· < ·) ∧ ∀ e ∈ ents'.toList, e.born < clock' := by
  obtain ⟨ents, clock, h1, h2, h3, h4, h5⟩ := map_ents h
  have hf := KE.find ents.toList (m.map (·.1)) k w h2
  have hc := fun e => KE.check e k w
  have e1 : (encM ek ev (mset m k x)).map (·.1) = ((mset m k x).map (·.1)).map ek := by simp [encM]
  have e2 : (encM ek ev (mset m k x)).map (·.2) = (mset m k x).map fun p => ev p.2 := by simp [encM]
  rw [e1, e2]
  cases hm : mfind (m.map (·.1)) k with
  | none =>
    refine ⟨ents.push { key := ek k, val := u, born := clock }, clock + 1, ?_, ?_, ?_, ?_, ?_⟩
    · simp [Instr.mapUpdate, run_underlying (mapT_un hmt), run_getMap h1, run_setMap h1, hc, hf, hm]
    · rw [mfind_set_none m k x hm]; simp [h2]
    · rw [mfind_set_none m k x hm]
      simpa using h3.append (Rels.cons hu Rels.nil)
    · simp only [Array.toList_push, List.map_append, List.map_cons, List.map_nil]
      refine List.pairwise_append.2 ⟨h4, by simp, fun p hp q hq => ?_⟩
      obtain ⟨e, he, rfl⟩ := List.mem_map.1 hp
      simp at hq; subst hq; exact h5 e he
    · intro e he
      simp only [Array.toList_push, List.mem_append, List.mem_singleton] at he
      rcases he with he | rfl
      · have := h5 e he; omega
      · simp
  | some i =>
    obtain ⟨hi, hk, hset⟩ := mfind_set_some m k x i hm
    have hil : i < ents.toList.length := by have := congrArg List.length h2; simp at this; simp; omega
    obtain ⟨e0, hei⟩ : ∃ e0, ents.toList[i]? = some e0 := ⟨_, List.getElem?_eq_getElem hil⟩
    have hei' : ents[i]? = some e0 := by simpa using hei
    have hil2 : i < ents.size := by simpa using hil
    have hkey : e0.key = ek k := by
      have := congrArg (fun l => l[i]?) h2
      simp only [List.getElem?_map, hei] at this
      have hk' := hk
      simp only [List.getElem?_map] at hk'
      rw [hk'] at this
      simpa using this
    refine ⟨ents.modify i (fun e => { e with key := ek k, val := u }), clock, ?_, ?_, ?_, ?_, ?_⟩
    · simp [Instr.mapUpdate, run_underlying (mapT_un hmt), run_getMap h1, run_setMap h1, hc, hf, hm, hei', hkey, KE.stay]
    · rw [hset, List.map_set, List.map_set, ← h2]
      apply List.ext_getElem?
      intro j
      simp only [Array.toList_modify, List.getElem?_map, List.getElem?_modify, List.getElem?_set, List.length_map]
      by_cases hij : i = j
      · subst hij; simp only [hei, hei']; simp [hil, hi, hil2]
      · simp [hij]
    · rw [hset, List.map_set]
      have : (ents.modify i (fun e => { e with key := ek k, val := u })).toList.map (·.val) = (ents.toList.map (·.val)).set i u := by
        apply List.ext_getElem?
        intro j
        simp only [Array.toList_modify, List.getElem?_map, List.getElem?_modify, List.getElem?_set, List.length_map]
        by_cases hij : i = j
        · subst hij; simp only [hei, hei']; simp [hil, hi, hil2]
        · simp [hij]
      rw [this]
      refine ⟨by simp [h3.1], fun j c v hj1 hj2 => ?_⟩
      rw [List.getElem?_set] at hj1 hj2
      by_cases hij : i = j
      · subst hij
        simp at hj1 hj2
        rw [← hj1.2, ← hj2.2]; exact hu
      · rw [if_neg hij] at hj1 hj2
        exact h3.2 j c v hj1 hj2
    · have : (ents.modify i (fun e => { e with key := ek k, val := u })).toList.map (·.born) = ents.toList.map (·.born) := by
        apply List.ext_getElem?
        intro j
        simp only [Array.toList_modify, List.getElem?_map, List.getElem?_modify]
        by_cases hij : i = j
        · subst hij; simp only [hei]; simp
        · simp [hij]
      rw [this]; exact h4
    · intro e he
      obtain ⟨j, hj⟩ := List.getElem?_of_mem he
      rw [Array.toList_modify, List.getElem?_modify] at hj
      cases hej : ents.toList[j]? with
      | none => simp [hej] at hj
      | some e0 =>
        have hm0 := h5 e0 (List.mem_of_getElem? hej)
        by_cases hij : i = j
        · simp [hej, hij] at hj; subst hj; exact hm0
        · simp [hej, hij] at hj; subst hj; exact hm0

theorem r_makeMap (m : List (K × α)) (hm : m = []) {mt : TypeId} (ht : Nat.blt t S.nt = true)
    (hr : ∀ b, AWL P w0 C0 ops rest Q (AState.put ⟨S.nt, S.slots, ⟨b, true, .map (encM ek ev m)⟩ :: S.objs⟩ t (.a (.v (.map (some b)))))) :
    AWL P w0 C0 ops (⟨some t, .makeMap mt none, ty, pos, aft, none⟩ :: rest) Q S := by
  rintro a w ⟨C, T, hs⟩
  subst hm
  have hrun : (execOp a.eval ⟨some t, .makeMap mt none, ty, pos, aft, none⟩).run P w = .ok (.value (.map (some w.heap.size))) (w.alloc (.map #[] 0)) := by
    have : (Instr.makeMap mt none).run P w = .ok (.map (some w.heap.size)) (w.alloc (.map #[] 0)) := rfl
    simp [execOp, this]
  refine wpList_plain rfl (fun K hK => ?_)
  unfold Oper.wp
  rw [hrun]
  have hs' := hs.newObj (.map #[] 0) (o := .map (encM ek ev [])) ⟨#[], 0, heap_alloc_at _ _, rfl, Rels.nil, by simp, by simp⟩
  exact hK _ _ (hr w.heap.size _ _ ⟨C, T, hs'.put ht (srel_v _)⟩)

theorem r_lookup (i : Nat) (KE : KeyEnc P kt ek) {x y : Operand} {b : Nat} {rw' : Bool} {m : List (K × α)} {k : K} (z : α) {mt : TypeId} (hx : S.ev x = some (.a (.v (.map (some b))))) (hi : S.objs[i]? = some ⟨b, rw', .map (encM ek ev m)⟩) (hy : S.ev y = some (.a (.v (ek k))))
    (hmt : mapT P mt = some (kt, et)) (hz : ZeroAV P et (ev z)) (ht : Nat.blt t S.nt = true)
    (hr : AWL P w0 C0 ops rest Q (S.put t (.a (ev ((mget m k).getD z))))) : AWL P w0 C0 ops (⟨some t, .lookup mt x y false, ty, pos, aft, none⟩ :: rest) Q S :=
  awl_pure ht (fun C T a w hs => by
    obtain ⟨u, h1, h2, h3⟩ := run_look KE hmt (hs.objs _ (mem_of_get hi)).1 k z hz
    exact ⟨u, by simp [execOp, hs.evv hx, hs.evv hy, h2], h1⟩) hr
theorem r_lookupOk (i : Nat) (KE : KeyEnc P kt ek) {x y : Operand} {b : Nat} {rw' : Bool} {m : List (K × α)} {k : K} (z : α) {mt : TypeId} (hx : S.ev x = some (.a (.v (.map (some b))))) (hi : S.objs[i]? = some ⟨b, rw', .map (encM ek ev m)⟩) (hy : S.ev y = some (.a (.v (ek k))))
    (hmt : mapT P mt = some (kt, et)) (hz : ZeroAV P et (ev z)) (ht : Nat.blt t S.nt = true)
    (hr : AWL P w0 C0 ops rest Q (S.put t (.a (.tup [ev ((mget m k).getD z), .v (.bool (mget m k).isSome)])))) : AWL P w0 C0 ops (⟨some t, .lookup mt x y true, ty, pos, aft, none⟩ :: rest) Q S :=
  awl_pure ht (fun C T a w hs => by
    obtain ⟨u, h1, h2, h3⟩ := run_look KE hmt (hs.objs _ (mem_of_get hi)).1 k z hz
    exact ⟨_, by simp [execOp, hs.evv hx, hs.evv hy, h3], rel_tup.2 (Rels.cons h1 (Rels.cons (Rel.v _) Rels.nil))⟩) hr
theorem r_mapUpdate (i : Nat) (KE : KeyEnc P kt ek) {x y v : Operand} {b : Nat} {m : List (K × α)} {k : K} (z : α) {sv : SV} {mt : TypeId} (hx : S.ev x = some (.a (.v (.map (some b))))) (hi : S.objs[i]? = some ⟨b, true, .map (encM ek ev m)⟩) (hy : S.ev y = some (.a (.v (ek k)))) (hv : S.ev v = some sv) (hz : sv.av = ev z)
    (hmt : mapT P mt = some (kt, et))
    (hr : AWL P w0 C0 ops rest Q ⟨S.nt, S.slots, S.objs.set i ⟨b, true, .map (encM ek ev (mset m k z))⟩⟩) : AWL P w0 C0 ops (⟨none, .mapUpdate mt x y v, ty, pos, aft, none⟩ :: rest) Q S := by
  refine awl_opu rfl rfl (fun C T a w hs => ?_) hr
  have hob : ObjRel C b (.map (encM ek ev m)) w := (hs.objs _ (mem_of_get hi)).1
  have hb : b < w.heap.size := hs.objlt (mem_of_get hi)
  have hu := (hs.ev hv).av
  rw [hz] at hu
  generalize hvv : a.eval v = uv at hu
  obtain ⟨ents', clock', hrun, g1, g2, g3⟩ := run_upd KE hmt hob k z hu
  refine ⟨{ w with heap := w.heap.setIfInBounds b (.map ents' clock') }, C, T, by simp [execOp, hs.evv hx, hs.evv hy, hvv, hrun], hs.setObj hi (Nat.le_refl _) rfl rfl rfl (by simp) (fun j hj => by rw [Array.getElem?_setIfInBounds, if_neg (fun e : b = j => hj e.symm)]) ⟨ents', clock', by simp [hb], g1, g2, g3⟩⟩
theorem r_lenM (i : Nat) {x : Operand} {b : Nat} {rw' : Bool} {m : List (K × α)} {mt : TypeId} (hx : S.ev x = some (.a (.v (.map (some b))))) (hi : S.objs[i]? = some ⟨b, rw', .map (encM ek ev m)⟩) (hmt : mapT P mt = some (kt, et)) (ht : Nat.blt t S.nt = true)
    (hr : AWL P w0 C0 ops rest Q (S.put t (.a (.v (.int .i64 m.length))))) : AWL P w0 C0 ops (⟨some t, .call ⟨.builtin .len, #[x], #[mt]⟩, ty, pos, aft, none⟩ :: rest) Q S :=
  awl_pure ht (fun C T a w hs => by
    obtain ⟨ents, clock, h1, h2, _⟩ := map_ents (hs.objs _ (mem_of_get hi)).1
    have hl : ents.size = m.length := by have := congrArg List.length h2; simpa using this
    exact ⟨.int .i64 m.length, by simp [execOp, resolve, invoke, builtin, Builtin.len_, hs.evv hx, run_underlying (mapT_un hmt), run_getMap h1, goInt, hl], srel_v _⟩) hr
end
end Go.Proofs.Ytmbfmnhcahhciaa.A

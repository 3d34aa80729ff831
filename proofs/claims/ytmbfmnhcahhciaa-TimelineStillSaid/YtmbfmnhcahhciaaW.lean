/- The rules of a walk over abstract states: keys of more than one cell, loops over maps, slices that grow in boxes. -/
import Derived.Test.YtmbfmnhcahhciaaR
import Derived.Maps.RangeRun
import Derived.DeepKeys3
import Derived.Laws.StructEq
namespace Go.Proofs.Ytmbfmnhcahhciaa.A
open Go Go.RowKit
set_option linter.unusedVariables false
set_option linter.unusedSimpArgs false
set_option linter.unusedSectionVars false
variable {P : Program} {w0 : Base} {C0 C : CS} {T : TS} {S S' : AState} {a : Act} {w : World} {ops : Array Oper} {rest : List Oper} {o : Oper} {Q : Exit → AState → Prop}
variable {t : Nat} {ty ty' : TypeId} {pos : String} {aft : Array Edge}

theorem SimC.perm (h : SimC w0 C0 C T S a w) {objs : List OE} (hp : objs.Perm S.objs) : SimC w0 C0 C T ⟨S.nt, S.slots, objs⟩ a w :=
  ⟨h.below, h.com, h.one, h.old, fun e he => h.objs e (hp.mem_iff.1 he), (hp.pairwise_iff (fun h => fun e => h e.symm)).2 h.apart, fun t k hk => ⟨(h.toks t k hk).1, fun e he => (h.toks t k hk).2 e (hp.mem_iff.1 he)⟩, h.tokne, h.size, h.slots, h.defers, h.dr⟩
theorem imp_perm {objs : List OE} (hp : objs.Perm S.objs) : Imp w0 C0 S ⟨S.nt, S.slots, objs⟩ := fun a w ⟨C, T, hs⟩ => ⟨C, T, hs.perm hp⟩
theorem imp_sub {objs : List OE} (hp : objs.Sublist S.objs) : Imp w0 C0 S ⟨S.nt, S.slots, objs⟩ := fun a w ⟨C, T, hs⟩ => ⟨C, T, hs.sub hp⟩
theorem Imp.trans {S1 S2 S3 : AState} (h : Imp w0 C0 S1 S2) (k : Imp w0 C0 S2 S3) : Imp w0 C0 S1 S3 := fun a w hs => k a w (h a w hs)

/-! ### what is one value alone -/
def IsVal (x : AV) (v : Value) : Prop := ∀ (C : CS) (u : Value), Rel C x u ↔ u = v
theorem isVal_v (v : Value) : IsVal (.v v) v := fun C u => ⟨fun h => by cases h; rfl, fun h => by subst h; exact .v _⟩
inductive AreVals : List AV → List Value → Prop where
  | nil : AreVals [] []
  | cons {x : AV} {v : Value} {xs : List AV} {vs : List Value} (h : IsVal x v) (r : AreVals xs vs) : AreVals (x :: xs) (v :: vs)
theorem AreVals.rels {xs : List AV} {vs : List Value} (h : AreVals xs vs) : ∀ (C : CS) (us : List Value), Rels C xs us ↔ us = vs := by
  induction h with
  | nil => exact fun C us => ⟨fun h => h.nil_inv, fun h => by subst h; exact Rels.nil⟩
  | cons h1 _ ih =>
    intro C us
    constructor
    · intro h
      obtain ⟨u, us', rfl, h2, h3⟩ := h.cons_inv
      rw [(h1 C u).1 h2, (ih C us').1 h3]
    · rintro rfl
      exact Rels.cons ((h1 C _).2 rfl) ((ih C _).2 rfl)
theorem isVal_agg {xs : List AV} {vs : List Value} (h : AreVals xs vs) : IsVal (.agg xs) (.agg vs.toArray) := fun C u => by
  constructor
  · intro hr
    obtain ⟨arr, rfl⟩ : ∃ arr, u = .agg arr := by cases hr; exact ⟨_, rfl⟩
    have := (h.rels C arr.toList).1 (rel_agg.1 hr)
    rw [← this]
  · rintro rfl
    exact rel_agg.2 (by simpa using (h.rels C vs).2 rfl)
theorem areVals_v : ∀ (vs : List Value), AreVals (vs.map .v) vs
  | [] => .nil
  | v :: vs => .cons (isVal_v v) (areVals_v vs)
theorem imp_val (t : Nat) {x y : AV} {v : Value} (hx : S.get t = some (.a x)) (h1 : IsVal x v) (h2 : IsVal y v) : Imp w0 C0 S (S.put t (.a y)) := by
  rintro a w ⟨C, T, hs⟩
  refine ⟨C, T, hs.below, hs.com, hs.one, hs.old, hs.objs, hs.apart, hs.toks, hs.tokne, hs.size, fun t' z hz => ?_, hs.defers, hs.dr⟩
  simp only [AState.get, AState.put, find_cons] at hz
  split at hz
  · rename_i e; subst e; cases hz
    have := (h1 C _).1 (hs.slots _ _ hx)
    exact (h2 C _).2 this
  · exact hs.slots _ _ hz

/-! ### keys of more than one cell -/
theorem keyEnc_of_eq {K : Type} [DecidableEq K] {kt : TypeId} {d : TypeDesc} {ek : K → Value} (hd : P.underlying kt = some d) (hag : ∀ k, ∃ cs, ek k = .agg cs) (heq : ∀ (a b : K) (w : World), (Op.equal kt (ek a) (ek b)).run P w = .ok (decide (b = a)) w)
    (hc : ∀ (e : Bool) (k : K) (w : World), (Instr.checkKey e 10000 kt (ek k)).run P w = .ok () w) (hst : ∀ k : K, Instr.sameBits 10000 (ek k) (ek k) = true) : KeyEnc P kt ek where
  check := hc
  stay := fun k w => by simp [Instr.keyThatStays, hst]
  find := fun ents ks k w h => by
    have hask : ∀ (ents : List MapEntry) (ks : List K) (i0 : Nat), ents.map (·.key) = ks.map ek → (Instr.findAsking kt (ek k) ents i0).run P w = .ok ((mfind ks k).bind fun i => (ents[i]?).map fun e => (i0 + i, e.val)) w := by
      intro ents
      induction ents with
      | nil => intro ks i0 h; cases ks with | nil => rfl | cons _ _ => simp at h
      | cons e es ih =>
        intro ks i0 h
        cases ks with
        | nil => simp at h
        | cons x ks =>
          simp only [List.map_cons, List.cons.injEq] at h
          unfold Instr.findAsking
          simp only [Sem.run_bind, h.1, heq, Result.andThen]
          by_cases hx : x = k
          · simp [mfind, hx]
          · simp only [hx, decide_false, Bool.false_eq_true, if_false]
            rw [ih ks (i0 + 1) h.2]
            cases hm : mfind ks k with
            | none => simp [mfind, hx, hm]
            | some i => simp [mfind, hx, hm, Nat.add_assoc, Nat.add_comm 1 i]
    have hnow : ents = [] ∨ Instr.findNow d (ek k) ents 0 = none := by
      cases ents with
      | nil => exact .inl rfl
      | cons e es =>
        right
        obtain ⟨cs, hcs⟩ := hag k
        unfold Instr.findNow
        rw [hcs]
        have : Instr.sameNow d (.agg cs) e.key = none := by cases d <;> rfl
        rw [this]
    rcases hnow with rfl | hnow
    · cases ks with
      | nil => simp [Instr.findKey, run_underlying hd, Instr.findNow, mfind]
      | cons _ _ => simp at h
    · have := hask ents ks 0 h
      simp only [Nat.zero_add] at this
      simp only [Instr.findKey, Sem.run_bind, run_underlying hd, Result.andThen, hnow]
      exact this

def isIntT (P : Program) (t : TypeId) (q : IntKind) : Bool := match P.underlying t with | some (.int q') => decide (q' = q) | _ => false
theorem isIntT_un {t : TypeId} {q : IntKind} (h : isIntT P t q = true) : P.underlying t = some (.int q) := by
  unfold isIntT at h; split at h
  · rename_i q' hq; simp at h; subst h; exact hq
  · cases h
def notAgg (P : Program) (t : TypeId) : Bool := match aggT P t with | some false => true | _ => false
theorem notAgg_eq {t : TypeId} (h : notAgg P t = true) : aggT P t = some false := by
  unfold notAgg at h; split at h
  · assumption
  · cases h
def intFields (P : Program) (q : IntKind) : Nat → List Field → Bool
  | _, [] => true
  | i, f :: fs => decide (f.name ≠ "_") && Nat.beq f.offset i && notAgg P f.type && isIntT P f.type q && intFields P q (i + 1) fs
theorem run_part1 {e : TypeId} (he : aggT P e = some false) {xs : Array Value} {off : Nat} {v : Value} (hx : xs[off]? = some v) (w : World) : (part e xs off).run P w = .ok v w := by
  simp [part, run_isAgg he, hx]
theorem eqFields_ints {q : IntKind} (d : Nat) (w : World) : ∀ (fs : List Field) (i : Nat) (us bs : List Int) (xs ys : Array Value), intFields P q i fs = true → us.length = fs.length → bs.length = fs.length →
    (∀ (j : Nat) (n : Int), us[j]? = some n → xs[i + j]? = some (.int q n)) → (∀ (j : Nat) (n : Int), bs[j]? = some n → ys[i + j]? = some (.int q n)) → (Op.eqFields (d + 1) xs ys fs).run P w = .ok (decide (bs = us)) w
  | [], i, us, bs, xs, ys, _, h1, h2, _, _ => by
    have e1 : us = [] := List.eq_nil_of_length_eq_zero h1
    have e2 : bs = [] := List.eq_nil_of_length_eq_zero h2
    subst e1 e2; simp [Op.eqFields]
  | f :: fs, i, [], _, _, _, _, h1, _, _, _ => by simp at h1
  | f :: fs, i, _ :: _, [], _, _, _, _, h2, _, _ => by simp at h2
  | f :: fs, i, x :: us, y :: bs, xs, ys, hf, h1, h2, hx, hy => by
    simp only [intFields, Bool.and_eq_true, decide_eq_true_eq] at hf
    obtain ⟨⟨⟨⟨f1, f2⟩, f3⟩, f4⟩, f5⟩ := hf
    replace f3 := notAgg_eq f3
    replace f4 := isIntT_un f4
    have f2' := Nat.eq_of_beq_eq_true f2
    have ih := eqFields_ints d w fs (i + 1) us bs xs ys f5 (by simpa using h1) (by simpa using h2) (fun j n hj => by have := hx (j + 1) n (by simpa using hj); rwa [show i + (j + 1) = i + 1 + j from by omega] at this) (fun j n hj => by have := hy (j + 1) n (by simpa using hj); rwa [show i + (j + 1) = i + 1 + j from by omega] at this)
    have px := run_part1 f3 (hx 0 x rfl) w
    have py := run_part1 f3 (hy 0 y rfl) w
    simp only [Nat.add_zero] at px py
    simp only [Op.eqFields, f1, if_true, f2', Sem.run_bind, px, py, Result.andThen, ne_eq, not_false_eq_true, run_equalIn_int w d _ q q x y f4, Sem.run_ite, ih]
    by_cases hxy : x = y
    · subst hxy; simp
    · have : ¬ y = x := fun e => hxy e.symm
      simp [hxy, this]
theorem checkFields_ints {q : IntKind} (e : Bool) (d : Nat) (xs : Array Value) (g : Field → PUnit → Sem (ForInStep PUnit))
    (hg : ∀ (f : Field) (v : Value) (w : World), f.name ≠ "_" → (part f.type xs f.offset).run P w = .ok v w → (Instr.checkKey e (d + 1) f.type v).run P w = .ok () w → (g f PUnit.unit).run P w = .ok (.yield PUnit.unit) w) (w : World) :
    ∀ (fs : List Field) (i : Nat) (us : List Int), intFields P q i fs = true → us.length = fs.length → (∀ (j : Nat) (n : Int), us[j]? = some n → xs[i + j]? = some (.int q n)) →
    (forIn (m := Sem) fs PUnit.unit g).run P w = .ok PUnit.unit w
  | [], i, us, _, h1, _ => by simp
  | f :: fs, i, [], _, h1, _ => by simp at h1
  | f :: fs, i, x :: us, hf, h1, hx => by
    simp only [intFields, Bool.and_eq_true, decide_eq_true_eq] at hf
    obtain ⟨⟨⟨⟨f1, f2⟩, f3⟩, f4⟩, f5⟩ := hf
    replace f3 := notAgg_eq f3
    replace f4 := isIntT_un f4
    have f2' := Nat.eq_of_beq_eq_true f2
    have ih := checkFields_ints e d xs g hg w fs (i + 1) us f5 (by simpa using h1) (fun j n hj => by have := hx (j + 1) n (by simpa using hj); rwa [show i + (j + 1) = i + 1 + j from by omega] at this)
    have px := run_part1 f3 (hx 0 x rfl) w
    simp only [Nat.add_zero] at px
    have hck : (Instr.checkKey e (d + 1) f.type (.int q x)).run P w = .ok () w := by simp [Instr.checkKey, run_underlying f4]
    have hgf := hg f (.int q x) w f1 (by rw [f2']; exact px) hck
    rw [List.forIn_cons]
    simp only [Sem.run_bind, hgf, Result.andThen]
    exact ih
def ekL (q : IntKind) (l : List Int) : Value := .agg (l.map (Value.int q)).toArray
theorem sameBits_ekL (q : IntKind) (l : List Int) : Instr.sameBits 10000 (ekL q l) (ekL q l) = true := by
  simp only [ekL]
  unfold Instr.sameBits
  simp only [beq_self_eq_true, Bool.true_and, List.all_eq_true]
  intro p hp
  obtain ⟨x, hx⟩ : ∃ n, p = (Value.int q n, Value.int q n) := by
    have : ∀ (l : List Value), (∀ v ∈ l, ∃ n, v = Value.int q n) → ∀ p ∈ l.zip l, ∃ n, p = (Value.int q n, Value.int q n) := by
      intro l
      induction l with
      | nil => intro _ p hp; simp at hp
      | cons v l ih =>
        intro hl p hp
        rw [List.zip_cons_cons] at hp
        rcases List.mem_cons.1 hp with rfl | hp
        · obtain ⟨n, rfl⟩ := hl v (by simp); exact ⟨n, rfl⟩
        · exact ih (fun v hv => hl v (List.mem_cons_of_mem _ hv)) p hp
    exact this _ (fun v hv => by obtain ⟨n, _, rfl⟩ := List.mem_map.1 (by simpa using hv); exact ⟨n, rfl⟩) p hp
  subst hx
  simp [Instr.sameBits]
/-- structs of integers -/
theorem keyEnc_struct {K : Type} [DecidableEq K] {kt : TypeId} {q : IntKind} (cells : K → List Int) (hinj : ∀ a b, cells a = cells b → a = b) (hS : P.underlying kt = some (.struct (P.fieldsOf kt))) (hp : P.stoodInHeld kt = false) (hf : intFields P q 0 (P.fieldsOf kt).toList = true) (hl : ∀ k, (cells k).length = (P.fieldsOf kt).toList.length) :
    KeyEnc P kt (fun k => ekL q (cells k)) := by
  have hget : ∀ (l : List Int) (j : Nat) (n : Int), l[j]? = some n → (l.map (Value.int q)).toArray[0 + j]? = some (.int q n) := fun l j n h => by simp [h]
  refine keyEnc_of_eq hS (fun k => ⟨_, rfl⟩) (fun a b w => ?_) (fun e k w => ?_) (fun k => sameBits_ekL q _)
  · have := eqFields_ints (P := P) (q := q) 9998 w (P.fieldsOf kt).toList 0 (cells a) (cells b) _ _ hf (hl a) (hl b) (hget _) (hget _)
    simp only [Op.equal, Op.maxDepth, ekL]
    rw [show (10000 : Nat) = 9999 + 1 from rfl, run_equalIn_struct w 9999 kt _ _ hS hp, this]
    by_cases h : b = a
    · subst h; simp
    · have : cells b ≠ cells a := fun e => h (hinj _ _ e)
      simp [h, this]
  · simp only [ekL]
    rw [show (10000 : Nat) = 9999 + 1 from rfl]
    unfold Instr.checkKey
    simp only [Sem.run_bind, run_underlying hS, Result.andThen]
    rw [← Array.forIn_toList]
    rw [checkFields_ints (P := P) (q := q) e 9998 ((cells k).map (Value.int q)).toArray _ ?hg w (P.fieldsOf kt).toList 0 (cells k) hf (hl k) (hget _)]
    · rfl
    · intro f v w h1 h2 h3
      simp [h1, Sem.run_bind, h2, h3]

/-! ### maps whose keys are of more than one cell -/
section
variable {K α : Type} [DecidableEq K] {ek : K → Value} {ev : α → AV} {kt et : TypeId}
theorem r_lookupK (i : Nat) (KE : KeyEnc P kt ek) {x y : Operand} {sy : SV} {b : Nat} {rw' : Bool} {m : List (K × α)} {k : K} (z : α) {mt : TypeId} (hx : S.ev x = some (.a (.v (.map (some b))))) (hi : S.objs[i]? = some ⟨b, rw', .map (encM ek ev m)⟩) (hy : S.ev y = some sy) (hyk : IsVal sy.av (ek k))
    (hmt : mapT P mt = some (kt, et)) (hz : ZeroAV P et (ev z)) (ht : Nat.blt t S.nt = true)
    (hr : AWL P w0 C0 ops rest Q (S.put t (.a (ev ((mget m k).getD z))))) : AWL P w0 C0 ops (⟨some t, .lookup mt x y false, ty, pos, aft, none⟩ :: rest) Q S :=
  awl_pure ht (fun C T a w hs => by
    obtain ⟨u, h1, h2, h3⟩ := run_look KE hmt (hs.objs _ (mem_of_get hi)).1 k z hz
    exact ⟨u, by simp [execOp, hs.evv hx, (hyk C _).1 (hs.ev hy).av, h2], h1⟩) hr
theorem r_lookupOkK (i : Nat) (KE : KeyEnc P kt ek) {x y : Operand} {sy : SV} {b : Nat} {rw' : Bool} {m : List (K × α)} {k : K} (z : α) {mt : TypeId} (hx : S.ev x = some (.a (.v (.map (some b))))) (hi : S.objs[i]? = some ⟨b, rw', .map (encM ek ev m)⟩) (hy : S.ev y = some sy) (hyk : IsVal sy.av (ek k))
    (hmt : mapT P mt = some (kt, et)) (hz : ZeroAV P et (ev z)) (ht : Nat.blt t S.nt = true)
    (hr : AWL P w0 C0 ops rest Q (S.put t (.a (.tup [ev ((mget m k).getD z), .v (.bool (mget m k).isSome)])))) : AWL P w0 C0 ops (⟨some t, .lookup mt x y true, ty, pos, aft, none⟩ :: rest) Q S :=
  awl_pure ht (fun C T a w hs => by
    obtain ⟨u, h1, h2, h3⟩ := run_look KE hmt (hs.objs _ (mem_of_get hi)).1 k z hz
    exact ⟨_, by simp [execOp, hs.evv hx, (hyk C _).1 (hs.ev hy).av, h3], rel_tup.2 (Rels.cons h1 (Rels.cons (Rel.v _) Rels.nil))⟩) hr
theorem r_mapUpdateK (i : Nat) (KE : KeyEnc P kt ek) {x y v : Operand} {sy : SV} {b : Nat} {m : List (K × α)} {k : K} (z : α) {sv : SV} {mt : TypeId} (hx : S.ev x = some (.a (.v (.map (some b))))) (hi : S.objs[i]? = some ⟨b, true, .map (encM ek ev m)⟩) (hy : S.ev y = some sy) (hyk : IsVal sy.av (ek k)) (hv : S.ev v = some sv) (hz : sv.av = ev z)
    (hmt : mapT P mt = some (kt, et))
    (hr : AWL P w0 C0 ops rest Q ⟨S.nt, S.slots, S.objs.set i ⟨b, true, .map (encM ek ev (mset m k z))⟩⟩) : AWL P w0 C0 ops (⟨none, .mapUpdate mt x y v, ty, pos, aft, none⟩ :: rest) Q S := by
  refine awl_opu rfl rfl (fun C T a w hs => ?_) hr
  have hob : ObjRel C b (.map (encM ek ev m)) w := (hs.objs _ (mem_of_get hi)).1
  have hb : b < w.heap.size := hs.objlt (mem_of_get hi)
  have hu := (hs.ev hv).av
  rw [hz] at hu
  generalize hvv : a.eval v = uv at hu
  obtain ⟨ents', clock', hrun, g1, g2, g3⟩ := run_upd KE hmt hob k z hu
  refine ⟨{ w with heap := w.heap.setIfInBounds b (.map ents' clock') }, C, T, by simp [execOp, hs.evv hx, (hyk C _).1 (hs.ev hy).av, hvv, hrun], hs.setObj hi (Nat.le_refl _) rfl rfl rfl (by simp) (fun j hj => by rw [Array.getElem?_setIfInBounds, if_neg (fun e : b = j => hj e.symm)]) ⟨ents', clock', by simp [hb], g1, g2, g3⟩⟩
end

/-! ### a loop over a map -/
theorem ev_ptr (h : SimC w0 C0 C T S a w) {x : Operand} {v : Value} (hx : S.ev x = some (.a (.v v))) : a.eval x = v := h.evv hx
theorem r_range (i : Nat) {x : Operand} {m : Nat} {rw' : Bool} {es : List (Value × AV)} {mt kt et : TypeId} (hx : S.ev x = some (.a (.v (.map (some m))))) (hi : S.objs[i]? = some ⟨m, rw', .map es⟩) (hmt : mapT P mt = some (kt, et)) (ht : Nat.blt t S.nt = true)
    (hr : ∀ r bs clock, bs.length = es.length → bs.Nodup → AWL P w0 C0 ops rest Q (AState.put ⟨S.nt, S.slots, ⟨r, true, .iter m clock [] clock⟩ :: S.objs.set i ⟨m, rw', .mapb es bs clock⟩⟩ t (.a (.v (.pointer (some ⟨r, 0, none⟩)))))) :
    AWL P w0 C0 ops (⟨some t, .range mt x, ty, pos, aft, none⟩ :: rest) Q S := by
  rintro a w ⟨C, T, hs⟩
  obtain ⟨ents, clock, h1, h2, h3, h4, h5⟩ := (hs.objs _ (mem_of_get hi)).1
  have hlt : i < S.objs.length := (List.getElem?_eq_some_iff.1 hi).1
  have hg : S.objs[i] = ⟨m, rw', .map es⟩ := (List.getElem?_eq_some_iff.1 hi).2
  have hbl : (ents.toList.map (·.born)).length = es.length := by have := congrArg List.length h2; simpa using this
  -- the same map, its stamps in sight
  have hs0 : SimC w0 C0 C T ⟨S.nt, S.slots, S.objs.set i ⟨m, rw', .mapb es (ents.toList.map (·.born)) clock⟩⟩ a w := by
    have hmem : ∀ e, e ∈ S.objs.set i ⟨m, rw', .mapb es (ents.toList.map (·.born)) clock⟩ → e = ⟨m, rw', .mapb es (ents.toList.map (·.born)) clock⟩ ∨ e ∈ S.objs := fun e he => by
      rcases List.mem_or_eq_of_mem_set he with h | h; exact .inr h; exact .inl h
    have hmap : (S.objs.set i ⟨m, rw', .mapb es (ents.toList.map (·.born)) clock⟩).map (·.b) = S.objs.map (·.b) := by
      rw [List.map_set]
      apply List.ext_getElem?
      intro j
      rw [List.getElem?_set]
      by_cases hij : i = j
      · subst hij; simp [hlt, hg]
      · simp [hij]
    refine ⟨hs.below, hs.com, hs.one, hs.old, fun e he => ?_, ?_, fun t k hk => ⟨(hs.toks t k hk).1, fun e he => ?_⟩, hs.tokne, hs.size, hs.slots, hs.defers, hs.dr⟩
    · rcases hmem e he with rfl | he
      · obtain ⟨_, g2, g3⟩ := hs.objs _ (mem_of_get hi)
        exact ⟨⟨ents, h1, h2, h3, rfl, h4, fun x hx => by obtain ⟨e, he, rfl⟩ := List.mem_map.1 hx; exact h5 e he⟩, g2, g3⟩
      · exact hs.objs e he
    · have e2 := List.pairwise_map.2 hs.apart
      exact List.pairwise_map.1 (hmap ▸ e2)
    · rcases hmem e he with rfl | he
      · exact (hs.toks t k hk).2 ⟨m, rw', .map es⟩ (mem_of_get hi)
      · exact (hs.toks t k hk).2 e he
  have hrun : (execOp a.eval ⟨some t, .range mt x, ty, pos, aft, none⟩).run P w = .ok (.value (.pointer (some ⟨w.heap.size, 0, none⟩))) (w.alloc (.mapIter (some m) clock #[] clock)) := by
    have : (Instr.range mt (.map (some m))).run P w = .ok (.pointer (some ⟨w.heap.size, 0, none⟩)) (w.alloc (.mapIter (some m) clock #[] clock)) := by
      simp [Instr.range, run_underlying (mapT_un hmt), run_getMap h1]
    simp [execOp, hs.evv hx, this]
  refine wpList_plain rfl (fun K hK => ?_)
  unfold Oper.wp
  rw [hrun]
  have hs' := hs0.newObj (.mapIter (some m) clock #[] clock) (o := .iter m clock [] clock) (heap_alloc_at _ _)
  exact hK _ _ (hr w.heap.size _ clock hbl (h4.imp (fun h => Nat.ne_of_lt h)) _ _ ⟨C, T, hs'.put ht (srel_v _)⟩)

theorem r_next (i j : Nat) {x : Operand} {r m clock : Nat} {rw' : Bool} {es : List (Value × AV)} {bs seen : List Nat} (hx : S.ev x = some (.a (.v (.pointer (some ⟨r, 0, none⟩))))) (hi : S.objs[i]? = some ⟨r, true, .iter m clock seen clock⟩) (hj : S.objs[j]? = some ⟨m, rw', .mapb es bs clock⟩) (ht : Nat.blt t S.nt = true)
    (hend : (∀ b ∈ bs, b ∈ seen) → AWL P w0 C0 ops rest Q (S.put t (.a (.tup [.v (.bool false)]))))
    (hnext : ∀ (q b : Nat) (p : Value × AV), es[q]? = some p → bs[q]? = some b → b ∉ seen → AWL P w0 C0 ops rest Q (AState.put ⟨S.nt, S.slots, S.objs.set i ⟨r, true, .iter m clock (seen ++ [b]) clock⟩⟩ t (.a (.tup [.v (.bool true), .v p.1, p.2])))) :
    AWL P w0 C0 ops (⟨some t, .next x false, ty, pos, aft, none⟩ :: rest) Q S := by
  rintro a w ⟨C, T, hs⟩
  have hri : w.heap[r]? = some (.mapIter (some m) clock seen.toArray clock) := (hs.objs _ (mem_of_get hi)).1
  obtain ⟨ents, h1, h2, h3, h4, h5, h6⟩ := (hs.objs _ (mem_of_get hj)).1
  have hold : ∀ x ∈ ents.toList, x.born < clock := fun x hx => h6 _ (by rw [← h4]; exact List.mem_map.2 ⟨x, hx, rfl⟩)
  refine wpList_plain rfl (fun K hK => ?_)
  unfold Oper.wp
  rcases run_next_at (P := P) w ty r m clock clock seen.toArray ents clock hri h1 hold (Nat.le_refl _) with ⟨g1, g2⟩ | ⟨e, he, w1, hw1, g2⟩
  · have hrun : (execOp a.eval ⟨some t, .next x false, ty, pos, aft, none⟩).run P w = .ok (.value (.tuple #[.bool false])) w := by simp [execOp, hs.evv hx, g2]
    rw [hrun]
    refine hK _ _ (hend (fun b hb => ?_) _ _ ⟨C, T, hs.put ht (rel_tup.2 (Rels.cons (.v _) Rels.nil))⟩)
    rw [← h4] at hb
    obtain ⟨e, he, rfl⟩ := List.mem_map.1 hb
    have hz : leftOf ents seen.toArray = #[] := Array.eq_empty_of_size_eq_zero g1
    unfold leftOf at hz
    have := (Array.filter_eq_empty_iff.1 hz) e (by simpa using he)
    simpa using this
  · have hel : e ∈ ents.toList ∧ e.born ∉ seen := by
      unfold leftOf at he
      simpa using he
    obtain ⟨q, hq⟩ := List.getElem?_of_mem hel.1
    have hk : es[q]?.map (·.1) = some e.key := by
      have := congrArg (fun l => l[q]?) h2
      simp only [List.getElem?_map, hq] at this
      simpa using this.symm
    obtain ⟨p, hp1, hp2⟩ : ∃ p, es[q]? = some p ∧ p.1 = e.key := by
      cases hes : es[q]? with
      | none => simp [hes] at hk
      | some p => simp [hes] at hk; exact ⟨p, rfl, hk⟩
    have hv : Rel C p.2 e.val := h3.2 q _ _ (by simp [hp1]) (by simp [hq])
    have hb : bs[q]? = some e.born := by rw [← h4]; simp [hq]
    have hs1 : SimC w0 C0 C T S a w1 := by rcases hw1 with rfl | rfl; exact hs; exact hs.drew
    have hri1 : w1.heap[r]? = some (.mapIter (some m) clock seen.toArray clock) := by rcases hw1 with rfl | rfl <;> exact hri
    have hrun : (execOp a.eval ⟨some t, .next x false, ty, pos, aft, none⟩).run P w = .ok (.value (.tuple #[.bool true, e.key, e.val])) (ChangeMaps.setBlock w1 r (.mapIter (some m) clock (seen.toArray.push e.born) clock)) := by simp [execOp, hs.evv hx, g2]
    rw [hrun]
    have hlt := (Array.getElem?_eq_some_iff.1 hri1).1
    have hs2 := hs1.setObj (ob' := .iter m clock (seen ++ [e.born]) clock) hi (w' := ChangeMaps.setBlock w1 r (.mapIter (some m) clock (seen.toArray.push e.born) clock)) (Nat.le_refl _) rfl rfl rfl (by simp [ChangeMaps.setBlock])
      (fun k hk => by simp only [ChangeMaps.setBlock]; rw [Array.getElem?_setIfInBounds, if_neg (fun e : r = k => hk e.symm)]) (by simp [ObjRel, ChangeMaps.setBlock, hlt])
    refine hK _ _ (hnext q e.born p hp1 hb hel.2 _ _ ⟨C, T, hs2.put ht (rel_tup.2 (Rels.cons (.v _) (Rels.cons ?_ (Rels.cons hv Rels.nil))))⟩)
    rw [hp2]; exact .v _

theorem r_entry (i j : Nat) {x : Operand} {r m clock q b : Nat} {rw' : Bool} {es : List (Value × AV)} {bs seen : List Nat} {p : Value × AV} (hx : S.ev x = some (.a (.v (.pointer (some ⟨r, 0, none⟩))))) (hi : S.objs[i]? = some ⟨r, true, .iter m clock (seen ++ [b]) clock⟩) (hj : S.objs[j]? = some ⟨m, rw', .mapb es bs clock⟩) (hp : es[q]? = some p) (hb : bs[q]? = some b) (ht : Nat.blt t S.nt = true)
    (hr : AWL P w0 C0 ops rest Q (S.put t (.a (.tup [.v p.1, p.2])))) : AWL P w0 C0 ops (⟨some t, .entry x, ty, pos, aft, none⟩ :: rest) Q S :=
  awl_pure ht (fun C T a w hs => by
    have hri : w.heap[r]? = some (.mapIter (some m) clock (seen ++ [b]).toArray clock) := (hs.objs _ (mem_of_get hi)).1
    obtain ⟨ents, h1, h2, h3, h4, h5, h6⟩ := (hs.objs _ (mem_of_get hj)).1
    obtain ⟨e, he1, he2⟩ : ∃ e, ents.toList[q]? = some e ∧ e.born = b := by
      rw [← h4] at hb
      cases he : ents.toList[q]? with
      | none => simp [he] at hb
      | some e => simp [he] at hb; exact ⟨e, rfl, hb⟩
    subst he2
    have hk : p.1 = e.key := by
      have := congrArg (fun l => l[q]?) h2
      simp only [List.getElem?_map, he1, hp] at this
      simpa using this.symm
    have hv : Rel C p.2 e.val := h3.2 q _ _ (by simp [hp]) (by simp [he1])
    have hrun := run_entry_at (P := P) w r m clock seen.toArray ents clock e (by simpa using hri) h1 (List.mem_of_getElem? he1) (by rw [h4]; exact h5.imp (fun h => Nat.ne_of_lt h))
    refine ⟨.tuple #[e.key, e.val], by simp [execOp, hs.evv hx, hrun], rel_tup.2 (Rels.cons ?_ (Rels.cons hv Rels.nil))⟩
    rw [hk]; exact .v _) hr
/-- behind the loop: a map as any -/
theorem imp_unrange (j : Nat) {m clock : Nat} {rw' : Bool} {es : List (Value × AV)} {bs : List Nat} (hj : S.objs[j]? = some ⟨m, rw', .mapb es bs clock⟩) : Imp w0 C0 S ⟨S.nt, S.slots, S.objs.set j ⟨m, rw', .map es⟩⟩ := by
  rintro a w ⟨C, T, hs⟩
  have hlt : j < S.objs.length := (List.getElem?_eq_some_iff.1 hj).1
  have hg : S.objs[j] = ⟨m, rw', .mapb es bs clock⟩ := (List.getElem?_eq_some_iff.1 hj).2
  obtain ⟨ents, h1, h2, h3, h4, h5, h6⟩ := (hs.objs _ (mem_of_get hj)).1
  have hmem : ∀ e, e ∈ S.objs.set j ⟨m, rw', .map es⟩ → e = ⟨m, rw', .map es⟩ ∨ e ∈ S.objs := fun e he => by
    rcases List.mem_or_eq_of_mem_set he with h | h; exact .inr h; exact .inl h
  have hmap : (S.objs.set j ⟨m, rw', .map es⟩).map (·.b) = S.objs.map (·.b) := by
    rw [List.map_set]
    apply List.ext_getElem?
    intro k
    rw [List.getElem?_set]
    by_cases hij : j = k
    · subst hij; simp [hlt, hg]
    · simp [hij]
  refine ⟨C, T, hs.below, hs.com, hs.one, hs.old, fun e he => ?_, ?_, fun t k hk => ⟨(hs.toks t k hk).1, fun e he => ?_⟩, hs.tokne, hs.size, hs.slots, hs.defers, hs.dr⟩
  · rcases hmem e he with rfl | he
    · obtain ⟨_, g2, g3⟩ := hs.objs _ (mem_of_get hj)
      exact ⟨⟨ents, clock, h1, h2, h3, by rw [h4]; exact h5, fun e he => h6 _ (by rw [← h4]; exact List.mem_map.2 ⟨e, he, rfl⟩)⟩, g2, g3⟩
    · exact hs.objs e he
  · have e2 := List.pairwise_map.2 hs.apart
    exact List.pairwise_map.1 (hmap ▸ e2)
  · rcases hmem e he with rfl | he
    · exact (hs.toks t k hk).2 ⟨m, rw', .mapb es bs clock⟩ (mem_of_get hj)
    · exact (hs.toks t k hk).2 e he
end Go.Proofs.Ytmbfmnhcahhciaa.A

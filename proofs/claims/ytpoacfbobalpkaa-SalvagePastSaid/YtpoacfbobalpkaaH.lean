/- The rules of a walk over abstract states: calls, code, functions. -/
import Derived.Test.YtpoacfbobalpkaaG
namespace Go.Proofs.Ytpoacfbobalpkaa.A
open Go Go.RowKit
set_option linter.unusedVariables false
set_option linter.unusedSimpArgs false
set_option linter.unusedSectionVars false
variable {P : Program} {w0 : World} {C0 C : CS} {T : TS} {S S' : AState} {a : Act} {w : World} {ops : Array Oper} {rest : List Oper} {o : Oper} {Q : Exit → AState → Prop}
variable {t : Nat} {ty ty' : TypeId} {pos : String} {aft : Array Edge}

/-! ### contracts -/
def Com (C : CS) (w : World) : Prop := (∀ b o v, C b o = some v → w.cell? ⟨b, o, none⟩ = some v) ∧ ∀ b o v, C b o = some v → v.oneCell' = true
/-- objects as a callee may read them -/
def Objs (C : CS) (objs : List OE) (w : World) : Prop := (∀ e, e ∈ objs → ObjRel C e.b e.o w ∧ ∀ o, C e.b o = none) ∧ objs.Pairwise (fun e e' => e.b ≠ e'.b)

def AC (P : Program) (f : FuncId) (args : List AV) (objs : List OE) (R : AV → List OE → Prop) : Prop :=
  ∀ (C : CS) (w : World) (vals : Array Value), Com C w → Rels C args vals.toList → Objs C objs w →
    Calls P f vals w (fun e w' => ∃ v C' r nobjs, e = .returned v ∧ R r nobjs ∧ Below w.heap.size w w' ∧ (∀ b o, b < w.heap.size → C' b o = C b o) ∧ Com C' w' ∧ Rel C' r v ∧ Objs C' nobjs w' ∧ ∀ e ∈ nobjs, w.heap.size ≤ e.b)

theorem AC.mono {f : FuncId} {args : List AV} {objs : List OE} {R R' : AV → List OE → Prop} (h : AC P f args objs R) (hR : ∀ r n, R r n → R' r n) : AC P f args objs R' :=
  fun C w vals h1 h2 h3 => (h C w vals h1 h2 h3).mono fun e w' ⟨v, C', r, n, g1, g2, g3⟩ => ⟨v, C', r, n, g1, hR r n g2, g3⟩

/-- what a call is handed -/
inductive Arg (S : AState) : Operand → AV → Prop where
  | ev {x : Operand} {sv : SV} {c : AV} (h : S.ev x = some sv) (hc : sv.av = c) : Arg S x c
  | nil {x : Operand} {sz : Nat} (h : S.ev x = some (.a (.v (.slice none 0 0)))) : Arg S x (.sl sz [])
theorem Arg.rel (h : SimC w0 C0 C T S a w) {x : Operand} {c : AV} (hx : Arg S x c) : Rel C c (a.eval x) := by
  cases hx with
  | ev h1 hc => subst hc; exact (h.ev h1).av
  | nil h1 => have := h.evv h1; rw [this]; exact rel_sl_mk 0 0 rfl (Nat.le_refl _) (fun e => absurd rfl e) ⟨fun _ h => by simp at h, fun i cs j c h => by simp at h⟩
inductive Args (S : AState) : List Operand → List AV → Prop where
  | nil : Args S [] []
  | cons {x : Operand} {c : AV} {xs : List Operand} {cs : List AV} (h : Arg S x c) (r : Args S xs cs) : Args S (x :: xs) (c :: cs)
theorem Args.rels (h : SimC w0 C0 C T S a w) {xs : List Operand} {cs : List AV} (hx : Args S xs cs) : Rels C cs (xs.map a.eval) := by
  induction hx with
  | nil => exact Rels.nil
  | cons h1 _ ih => exact Rels.cons (h1.rel h) ih

/-- the caller's state behind a call -/
theorem SimC.called (h : SimC w0 C0 C T S a w) {w' : World} {C' : CS} {nobjs : List OE} (hb : Below w.heap.size w w') (hC : ∀ b o, b < w.heap.size → C' b o = C b o) (hcom : Com C' w') (hn : Objs C' nobjs w') (hnb : ∀ e ∈ nobjs, w.heap.size ≤ e.b) :
    SimC w0 C0 C' T ⟨S.nt, S.slots, nobjs ++ S.objs⟩ a w' := by
  have hlt : ∀ b o v, C b o = some v → b < w.heap.size := fun b o v hc => by have := World.block_lt_of_cell? w _ (h.com _ _ _ hc); simpa using this
  have hmono : ∀ b o v, C b o = some v → C' b o = some v := fun b o v hc => by rw [hC b o (hlt _ _ _ hc)]; exact hc
  have hw0 := h.below.size
  refine h.step (hb.mono hw0) hcom.1 hcom.2 (fun b o hb' => hC b o (by omega)) ?_ ?_ ?_ h.tokne (fun t x hx => ⟨x, hx, fun u r => SRel.mono hmono r⟩)
  · intro e he
    rcases List.mem_append.1 he with he | he
    · exact ⟨(hn.1 e he).1, (hn.1 e he).2, fun _ => by have := hnb e he; omega⟩
    · obtain ⟨g1, g2, g3⟩ := h.objs e he
      have := h.objlt he
      exact ⟨g1.mono hmono (hb.block _ this), fun o => by rw [hC _ _ this]; exact g2 o, g3⟩
  · refine List.pairwise_append.2 ⟨hn.2, h.apart, fun e he e' he' => ?_⟩
    have := hnb e he; have := h.objlt he'; omega
  · intro k i hk
    obtain ⟨g1, g2⟩ := h.toks k i hk
    have := g1.lt
    refine ⟨g1.keep (hb.block _ this) (fun o => hC _ _ this), fun e he => ?_⟩
    rcases List.mem_append.1 he with he | he
    · have := hnb e he; omega
    · exact g2 e he

/-- the objects that a callee reads, out of one's own -/
def ObjsIn (S : AState) (objs : List OE) : Prop := (∀ e ∈ objs, ∃ e' ∈ S.objs, e'.b = e.b ∧ e'.o = e.o) ∧ objs.Pairwise (fun e e' => e.b ≠ e'.b)
theorem ObjsIn.nil : ObjsIn S [] := ⟨by simp, by simp⟩
theorem ObjsIn.objs (h : SimC w0 C0 C T S a w) {objs : List OE} (ho : ObjsIn S objs) : Objs C objs w :=
  ⟨fun e he => by
    obtain ⟨e', he', h1, h2⟩ := ho.1 e he
    obtain ⟨g1, g2, _⟩ := h.objs e' he'
    rw [← h1, ← h2]; exact ⟨g1, g2⟩, ho.2⟩

def entersT (P : Program) (f : FuncId) : Prop := ∀ args w, (callFunc f args).run P w = .ok (.enter f args) w

theorem r_call {x : Operand} {xs : List Operand} {xa : Array Operand} {tys : Array TypeId} {f : FuncId} {caps args args' : List AV} {objs : List OE} {R : AV → List OE → Prop} (hx : S.ev x = some (.a (.fn f caps))) (hxa : xa = xs.toArray) (hargs : Args S xs args) (hc : AC P f args' objs R) (he : args' = args ++ caps)
    (hen : entersT P f) (ho : ObjsIn S objs) (ht : Nat.blt t S.nt = true)
    (hr : ∀ r nobjs, R r nobjs → AWL P w0 C0 ops rest Q (AState.put ⟨S.nt, S.slots, nobjs ++ S.objs⟩ t (.a r))) :
    AWL P w0 C0 ops (⟨some t, .call ⟨.value x, xa, tys⟩, ty, pos, aft, none⟩ :: rest) Q S := by
  rintro a w ⟨C, T, hs⟩
  subst hxa he
  have hf := hs.ev hx
  generalize hv : a.eval x = u at hf
  obtain ⟨arr, rfl⟩ : ∃ arr, u = .func (.func f) #[] arr := by cases hf; exact ⟨_, rfl⟩
  have hcaps := rel_fn.1 hf
  have hrels := (hargs.rels hs).append hcaps
  have hrun : (execOp a.eval ⟨some t, .call ⟨.value x, xs.toArray, tys⟩, ty, pos, aft, none⟩).run P w = .ok (.enter f (xs.map a.eval ++ arr.toList).toArray) w := by
    have : (xs.map a.eval ++ arr.toList).toArray = (xs.map a.eval).toArray ++ arr := by apply Array.ext'; simp
    rw [this]
    simp [execOp, resolve, invoke, hv, Deferred.ofValue, hen ((xs.map a.eval).toArray ++ arr) w]
  refine wpList_plain rfl (fun K hK => ?_)
  unfold Oper.wp
  rw [hrun]
  refine (hc C w (xs.map a.eval ++ arr.toList).toArray ⟨hs.com, hs.one⟩ (by simpa using hrels) (ho.objs hs)).mono ?_
  rintro e w' ⟨v, C', r, nobjs, rfl, hR, hb, hC, hcom, hrel, hn, hnb⟩
  exact hK _ _ (hr r nobjs hR _ _ ⟨C', T, (hs.called hb hC hcom hn hnb).put ht hrel⟩)

/-- a call that is handed nothing of one's own, and makes no object -/
theorem r_call0 {x : Operand} {xs : List Operand} {xa : Array Operand} {tys : Array TypeId} {f : FuncId} {caps args args' : List AV} {R : AV → Prop} (hx : S.ev x = some (.a (.fn f caps))) (hxa : xa = xs.toArray) (hargs : Args S xs args) (hc : AC P f args' [] (fun r n => n = [] ∧ R r)) (he : args' = args ++ caps)
    (hen : entersT P f) (ht : Nat.blt t S.nt = true) (hr : ∀ r, R r → AWL P w0 C0 ops rest Q (S.put t (.a r))) :
    AWL P w0 C0 ops (⟨some t, .call ⟨.value x, xa, tys⟩, ty, pos, aft, none⟩ :: rest) Q S :=
  r_call hx hxa hargs hc he hen ObjsIn.nil ht (fun r n ⟨hn, h⟩ => by subst hn; exact hr r h)

theorem r_makeFunc {f : FuncId} {xs : List Operand} {xa : Array Operand} {args : List AV} (hxa : xa = xs.toArray) (hargs : Args S xs args) (ht : Nat.blt t S.nt = true) (hr : AWL P w0 C0 ops rest Q (S.put t (.a (.fn f args)))) :
    AWL P w0 C0 ops (⟨some t, .makeFunc (.func f) #[] xa, ty, pos, aft, none⟩ :: rest) Q S :=
  awl_pure ht (fun C T a w hs => by
    subst hxa
    exact ⟨.func (.func f) #[] (xs.map a.eval).toArray, by simp [execOp, Instr.makeFunc], rel_fn.2 (by simpa using hargs.rels hs)⟩) hr

/-! ### weakening -/
inductive SV.le : SV → SV → Prop where
  | refl (x : SV) : SV.le x x
  | nilOwn (tok sz : Nat) : SV.le (.a (.v (.slice none 0 0))) (.own tok sz [])
  | nilSl (sz : Nat) : SV.le (.a (.v (.slice none 0 0))) (.a (.sl sz []))
  | ownSl (tok sz : Nat) (l : List (List AV)) : SV.le (.own tok sz l) (.a (.sl sz l))
  | conv {x y : AV} (h : LeA x y) : SV.le (.a x) (.a y)
theorem SV.le.refl' {x : SV} : SV.le x x := .refl x
theorem SV.le.rel {x y : SV} (h : SV.le x y) {u : Value} (r : SRel C T x u) : SRel C T y u := by
  cases h with
  | refl x => exact r
  | nilOwn tok sz => cases r; exact Or.inl ⟨rfl, rfl⟩
  | nilSl sz => cases r; exact rel_sl_mk 0 0 rfl (Nat.le_refl _) (fun e => absurd rfl e) ⟨fun _ h => by simp at h, fun i cs j c h => by simp at h⟩
  | ownSl tok sz l => exact SRel.av r
  | conv h => exact h.rel r
theorem SV.le.of_eq {x y : SV} (h : x = y) : SV.le x y := h ▸ .refl x
def Slots (S : AState) : List (Nat × SV) → Prop
  | [] => True
  | (t, x) :: r => (∃ y, S.get t = some y ∧ SV.le y x) ∧ Slots S r
theorem Slots.nil : Slots S [] := trivial
theorem Slots.cons {t : Nat} {x y : SV} {l : List (Nat × SV)} (h : S.get t = some y) (hl : SV.le y x) (r : Slots S l) : Slots S ((t, x) :: l) := ⟨⟨y, h, hl⟩, r⟩
theorem Slots.mem : ∀ {l : List (Nat × SV)}, Slots S l → ∀ {t : Nat} {x : SV}, (t, x) ∈ l → ∃ y, S.get t = some y ∧ SV.le y x
  | (t', x') :: l, h, t, x, hm => by
    rcases List.mem_cons.1 hm with e | hm
    · cases e; exact h.1
    · exact Slots.mem h.2 hm
structure AState.le (S S' : AState) : Prop where
  nt : S'.nt = S.nt
  slots : Slots S S'.slots
  objs : S'.objs.Sublist S.objs
theorem Sim.le (h : Sim w0 C0 S a w) (hle : S.le S') : Sim w0 C0 S' a w := by
  obtain ⟨C, T, hs⟩ := h
  refine ⟨C, T, hs.below, hs.com, hs.one, hs.old, fun e he => hs.objs e (hle.objs.mem he), hs.apart.sublist hle.objs, fun t k hk => ⟨(hs.toks t k hk).1, fun e he => (hs.toks t k hk).2 e (hle.objs.mem he)⟩, hs.tokne, hs.size.trans hle.nt.symm, fun t x hx => ?_, hs.defers⟩
  obtain ⟨y, hy, hl⟩ := hle.slots.mem (find_mem hx)
  exact hl.rel (hs.slots t y hy)

/-! ### code -/
theorem awp_weaken {c : Code} (hle : S.le S') (h : AWP P w0 C0 c Q S') : AWP P w0 C0 c Q S := fun a w hs => h a w (hs.le hle)
theorem awl_weaken {l : List Oper} (hle : S.le S') (h : AWL P w0 C0 ops l Q S') : AWL P w0 C0 ops l Q S := fun a w hs => h a w (hs.le hle)

theorem awp_region {id : Nat} {l : List Oper} (h : AWL P w0 C0 l.toArray l Q S) : AWP P w0 C0 (.region id l.toArray false) Q S :=
  fun a w hs => wp_region_lit (h a w hs)

def XThen (K : AState → Prop) (Q : Exit → AState → Prop) : Exit → AState → Prop
  | .normal, S => K S
  | e, S => Q e S
def XBlock (id : Nat) (Q : Exit → AState → Prop) : Exit → AState → Prop
  | .exit id', S => if id' = id then Q .normal S else Q (.exit id') S
  | e, S => Q e S

theorem x_then {K : AState → Prop} (h : K S) : XThen K Q .normal S := h
theorem x_thenE {K : AState → Prop} {id : Nat} (h : Q (.exit id) S) : XThen K Q (.exit id) S := h
theorem x_thenR {K : AState → Prop} (h : Q .ret S) : XThen K Q .ret S := h
theorem x_block {id : Nat} (h : Q .normal S) : XBlock id Q .normal S := h
theorem x_blockE {id : Nat} (h : Q .normal S) : XBlock id Q (.exit id) S := by simp only [XBlock, if_true]; exact h
theorem x_blockO {id id' : Nat} (hne : Nat.beq id' id = false) (h : Q (.exit id') S) : XBlock id Q (.exit id') S := by
  have : id' ≠ id := fun e => by subst e; simp at hne
  simp only [XBlock, this, if_false]; exact h
theorem x_blockR {id : Nat} (h : Q .ret S) : XBlock id Q .ret S := h
theorem awp_seq {x y : Code} (h : AWP P w0 C0 x (XThen (fun S => AWP P w0 C0 y Q S) Q) S) : AWP P w0 C0 (.seq x y) Q S := by
  intro a w hs
  refine wp_seq (wp_mono (h a w hs) ?_)
  rintro e a' w' ⟨S1, hs1, hq⟩
  cases e with
  | normal => exact hq a' w' hs1
  | _ => exact ⟨S1, hs1, hq⟩
/-- the ways meet again -/
theorem awp_cut {x y : Code} (Mid : AState → Prop) (h : AWP P w0 C0 x (XThen (fun S => ∃ S', S.le S' ∧ Mid S') Q) S) (hy : ∀ S, Mid S → AWP P w0 C0 y Q S) : AWP P w0 C0 (.seq x y) Q S := by
  refine awp_seq (fun a w hs => wp_mono (h a w hs) ?_)
  rintro e a' w' ⟨S1, hs1, hq⟩
  cases e with
  | normal => obtain ⟨S2, hle, hm⟩ := hq; exact ⟨S1, hs1, awp_weaken hle (hy S2 hm)⟩
  | _ => exact ⟨S1, hs1, hq⟩
theorem awp_skip (h : Q .normal S) : AWP P w0 C0 .skip Q S := fun _ _ hs => wp_skip ⟨S, hs, h⟩
theorem awp_label {l : Nat} (h : Q .normal S) : AWP P w0 C0 (.label l) Q S := fun _ _ hs => wp_label ⟨S, hs, h⟩
theorem awp_ret (h : Q .ret S) : AWP P w0 C0 .ret Q S := fun _ _ hs => wp_ret ⟨S, hs, h⟩
theorem awp_exit {id : Nat} (h : Q (.exit id) S) : AWP P w0 C0 (.exit id) Q S := fun _ _ hs => wp_exit ⟨S, hs, h⟩
theorem awp_cond {c : Operand} {x y : Code} {b : Bool} (hc : S.ev c = some (.a (.v (.bool b)))) (ht : b = true → AWP P w0 C0 x Q S) (hf : b = false → AWP P w0 C0 y Q S) : AWP P w0 C0 (.cond c x y) Q S := by
  rintro a w ⟨C, T, hs⟩
  exact wp_cond_split (hs.evv hc) (fun e => ht e a w ⟨C, T, hs⟩) (fun e => hf e a w ⟨C, T, hs⟩)
theorem awp_condT {c : Operand} {x y : Code} (hc : S.ev c = some (.a (.v (.bool true)))) (h : AWP P w0 C0 x Q S) : AWP P w0 C0 (.cond c x y) Q S := awp_cond hc (fun _ => h) (fun e => by cases e)
theorem awp_condF {c : Operand} {x y : Code} (hc : S.ev c = some (.a (.v (.bool false)))) (h : AWP P w0 C0 y Q S) : AWP P w0 C0 (.cond c x y) Q S := awp_cond hc (fun e => by cases e) (fun _ => h)
theorem awp_block {id : Nat} {c : Code} (h : AWP P w0 C0 c (XBlock id Q) S) : AWP P w0 C0 (.block id c) Q S := by
  intro a w hs
  refine wp_block (wp_mono (h a w hs) ?_)
  rintro e a' w' ⟨S1, hs1, hq⟩
  cases e with
  | exit id' =>
    by_cases hid : id' = id
    · simp only [XBlock, hid, if_true] at hq; simp only [Exit.inBlock, hid, if_true]; exact ⟨S1, hs1, hq⟩
    · simp only [XBlock, hid, if_false] at hq; simp only [Exit.inBlock, hid, if_false]; exact ⟨S1, hs1, hq⟩
  | _ => exact ⟨S1, hs1, hq⟩
theorem awp_loop {c : Code} (Inv : Nat → AState → Prop) (n : Nat) (S1 : AState) (hle : S.le S1) (h0 : Inv n S1)
    (round : ∀ n S, Inv n S → AWP P w0 C0 c (XThen (fun S' => ∃ m S2, S'.le S2 ∧ m < n ∧ Inv m S2) Q) S) : AWP P w0 C0 (.loop c) Q S := by
  intro a w hs
  have hs1 := hs.le hle
  have key : ∀ n a w S, Inv n S → Sim w0 C0 S a w → ∀ (b : Frame) (k : List Item) (cs : List Frame),
      ∃ e a' w', Lift w0 C0 Q e a' w' ∧ Arrives P (lone (b.at a (.code c :: .inLoop c :: k)) cs w) b k cs e a' w' := by
    intro n
    induction n using Nat.strongRecOn with
    | _ n ih =>
      intro a w S hI hs b k cs
      obtain ⟨e, a₁, w₁, ⟨S1, hs1, hq⟩, harr⟩ := round n S hI a w hs b (.inLoop c :: k) cs
      cases e with
      | normal =>
        obtain ⟨m, S2, hle, hlt, hI2⟩ := hq
        obtain ⟨e₂, a₂, w₂, hq₂, harr₂⟩ := ih m hlt a₁ w₁ S2 hI2 (hs1.le hle) b k cs
        exact ⟨e₂, a₂, w₂, hq₂, .of_steps (Steps.trans harr (.one step_inLoop)) harr₂⟩
      | exit id => exact ⟨_, a₁, w₁, ⟨S1, hs1, hq⟩, .pass (x := .inLoop c) rfl (fun _ _ => .inl (by simp)) harr⟩
      | goto l => exact ⟨_, a₁, w₁, ⟨S1, hs1, hq⟩, .pass (x := .inLoop c) rfl (fun _ _ => .inl (by simp)) harr⟩
      | ret => exact ⟨_, a₁, w₁, ⟨S1, hs1, hq⟩, .pass (x := .inLoop c) rfl (fun _ _ => .inl (by simp)) harr⟩
      | panic ch => exact ⟨_, a₁, w₁, ⟨S1, hs1, hq⟩, .pass (x := .inLoop c) rfl (fun _ _ => .inl (by simp)) harr⟩
      | outgrown => exact ⟨_, a₁, w₁, ⟨S1, hs1, hq⟩, .pass (x := .inLoop c) rfl (fun _ _ => .inl (by simp)) harr⟩
  intro b k cs
  obtain ⟨e, a', w', hq, harr⟩ := key n a w S1 h0 hs1 b k cs
  exact ⟨e, a', w', hq, .of_steps (.one step_loop) harr⟩

/-! ### functions -/
def slotsOf : Nat → List AV → List (Nat × SV)
  | _, [] => []
  | i, x :: r => (i, .a x) :: slotsOf (i + 1) r
theorem find_slotsOf : ∀ {l : List AV} {i t : Nat} {x : SV}, find t (slotsOf i l) = some x → ∃ j c, l[j]? = some c ∧ t = i + j ∧ x = .a c
  | [], i, t, x, h => by simp [slotsOf, find] at h
  | c :: l, i, t, x, h => by
    rw [slotsOf, find_cons] at h
    split at h
    · rename_i e; cases h; exact ⟨0, c, rfl, by omega, rfl⟩
    · obtain ⟨j, c', h1, h2, h3⟩ := find_slotsOf h
      exact ⟨j + 1, c', by simpa using h1, by omega, h3⟩
def ro (l : List OE) : List OE := l.map fun e => ⟨e.b, false, e.o⟩

inductive Res (S : AState) : Nat → AV → Prop where
  | mk {t : Nat} {x : SV} {c : AV} (h : S.get t = some x) (hc : x.av = c) : Res S t c
  | nil {t sz : Nat} (h : S.get t = some (.a (.v (.slice none 0 0)))) : Res S t (.sl sz [])
theorem Res.rel (h : SimC w0 C0 C T S a w) {c : AV} (hr : Res S t c) : Rel C c (a.tmps.getD t undef) := by
  cases hr with
  | mk hx hc => subst hc; exact (h.slots _ _ hx).av
  | nil hx =>
    have hh := h.slots _ _ hx
    generalize a.tmps.getD t undef = u at hh
    cases hh; exact rel_sl_mk 0 0 rfl (Nat.le_refl _) (fun e => absurd rfl e) ⟨fun _ h => by simp at h, fun i cs j c h => by simp at h⟩
/-- what a function hands back -/
inductive Result1 (S : AState) : List Nat → AV → Prop where
  | none : Result1 S [] (.tup [])
  | one {t : Nat} {c : AV} (h : Res S t c) : Result1 S [t] c
  | two {t t' : Nat} {c c' : AV} (h : Res S t c) (h' : Res S t' c') : Result1 S [t, t'] (.tup [c, c'])
  | three {t t' t'' : Nat} {c c' c'' : AV} (h : Res S t c) (h' : Res S t' c') (h'' : Res S t'' c'') : Result1 S [t, t', t''] (.tup [c, c', c''])

def Ret (R : AV → List OE → Prop) (rs : List Nat) (e : Exit) (S : AState) : Prop :=
  (e = .ret ∨ e = .normal) ∧ ∃ r nobjs, Result1 S rs r ∧ R r nobjs ∧ nobjs.Sublist S.objs ∧ ∀ x ∈ nobjs, x.rw = true

theorem ac_of_awp {f : FuncId} {fn : Func} {c : Code} {args : List AV} {objs : List OE} {R : AV → List OE → Prop} {rs : List Nat} {nt : Nat} (hf : P.funcs[f]? = some fn) (hb : fn.body = some c) (hres : fn.results = (rs.map ResultVar.tmp).toArray) (hnt : fn.ntmps = nt) (hn : Nat.ble args.length nt = true)
    (h : ∀ w0 C0, AWP P w0 C0 c (Ret R rs) ⟨nt, slotsOf 0 args, ro objs⟩) : AC P f args objs R := by
  subst hnt
  replace hn := Nat.le_of_ble_eq_true hn
  intro C w vals hcom hrels hobjs
  refine calls_of_wp hf hb ?_
  have hl : vals.size = args.length := by have := hrels.1; simpa using this
  have hs : SimC w C C (fun _ => none) ⟨fn.ntmps, slotsOf 0 args, ro objs⟩ ⟨vals ++ Array.replicate (fn.ntmps - vals.size) undef, []⟩ w := by
    refine ⟨Below.refl _ _, hcom.1, hcom.2, fun _ _ _ => rfl, ?_, ?_, by simp, by simp, by simp; omega, ?_, rfl⟩
    · intro e he
      obtain ⟨e0, he0, rfl⟩ := List.mem_map.1 he
      exact ⟨(hobjs.1 e0 he0).1, (hobjs.1 e0 he0).2, fun h => by cases h⟩
    · exact List.pairwise_map.2 hobjs.2
    · intro t x hx
      obtain ⟨j, c', h1, rfl, rfl⟩ := find_slotsOf hx
      obtain ⟨u, hu, hr⟩ := hrels.get h1
      have hj : j < vals.size := by have := (List.getElem?_eq_some_iff.1 h1).1; omega
      have hu' : vals[j]? = some u := by simpa using hu
      have : (vals ++ Array.replicate (fn.ntmps - vals.size) undef).getD (0 + j) undef = u := by
        rw [Nat.zero_add, Array.getD_eq_getD_getElem?, Array.getElem?_append_left hj, hu']; rfl
      rw [this]; exact hr
  refine wp_mono (h w C _ _ ⟨C, _, hs⟩) ?_
  rintro e a' w' ⟨S, ⟨C', T', hs'⟩, he, r, nobjs, hr, hR, hsub, hrw⟩
  have hfin : ∃ v, (results fn a'.tmps).run P w' = .ok v w' ∧ Rel C' r v := by
    cases hr with
    | none => exact ⟨_, by simp [results, hres], rel_tup.2 Rels.nil⟩
    | one h1 => exact ⟨_, results_tmp (by simpa using hres) _ _ _, h1.rel hs'⟩
    | two h1 h2 => exact ⟨_, results_tmp2 (by simpa using hres) _ _ _, rel_tup.2 (Rels.cons (h1.rel hs') (Rels.cons (h2.rel hs') Rels.nil))⟩
    | three h1 h2 h3 => exact ⟨.tuple #[a'.tmps.getD _ undef, a'.tmps.getD _ undef, a'.tmps.getD _ undef], by simp [results, hres], rel_tup.2 (Rels.cons (h1.rel hs') (Rels.cons (h2.rel hs') (Rels.cons (h3.rel hs') Rels.nil)))⟩
  obtain ⟨v, hv, hrel⟩ := hfin
  have hpost : a'.defers = [] ∧ ∃ v, (results fn a'.tmps).run P w' = .ok v w' ∧ ∃ v' C' r nobjs, Ending.returned v = .returned v' ∧ R r nobjs ∧ Below w.heap.size w w' ∧ (∀ b o, b < w.heap.size → C' b o = C b o) ∧ Com C' w' ∧ Rel C' r v' ∧ Objs C' nobjs w' ∧ ∀ e ∈ nobjs, w.heap.size ≤ e.b :=
    ⟨hs'.defers, v, hv, v, C', r, nobjs, rfl, hR, hs'.below, hs'.old, ⟨hs'.com, hs'.one⟩, hrel,
      ⟨fun x hx => ⟨(hs'.objs x (hsub.mem hx)).1, (hs'.objs x (hsub.mem hx)).2.1⟩, hs'.apart.sublist hsub⟩, fun x hx => (hs'.objs x (hsub.mem hx)).2.2 (hrw x hx)⟩
  rcases he with rfl | rfl
  · exact hpost
  · exact hpost
end Go.Proofs.Ytpoacfbobalpkaa.A

/- The rules of a walk over abstract states: loops over functions: the call of yield, the round, the statement. -/
import Derived.Test.YtmbfmnhcahhciaaO
import Derived.RangeFuncBound
namespace Go.Proofs.Ytmbfmnhcahhciaa.A
open Go Go.RowKit
set_option linter.unusedVariables false
set_option linter.unusedSimpArgs false
set_option linter.unusedSectionVars false
variable {P : Program} {w0 : Base} {C0 C : CS} {T : TS} {S S' : AState} {a : Act} {w : World} {ops : Array Oper} {rest : List Oper} {o : Oper} {Q : Exit → AState → Prop}
variable {t : Nat} {ty ty' : TypeId} {pos : String} {aft : Array Edge} {rn : Option Nat}

def Fr (rn : Option Nat) : Fence := { Fence.wide with round := rn }
theorem callsIn_fr {f : FuncId} {args : Array Value} {R : Ending → World → Prop} (n : Nat) (h : Calls P f args w R) : CallsIn (Fr rn) n P f args w R := (callsIn_wide (n := n)).2 h
theorem rowsIn_fr {row : String} {args : Array Value} {R : Value → World → Prop} (n : Nat) (h : Rows P row args w R) : RowsIn (Fr rn) n P row args w R :=
  fun c cs _ => let ⟨v, w', h1, h2⟩ := h c cs; ⟨v, w', h1, stepsIn_wide.2 h2⟩

/-- as AWL, within a round, or where yield is called -/
def AWLI (rn : Option Nat) (P : Program) (w0 : Base) (C0 : CS) (ops : Array Oper) (l : List Oper) (Q : Exit → AState → Prop) (S : AState) : Prop :=
  ∀ a w, Sim w0 C0 S a w → wpListIn (Fr rn) 0 P ops (Lift w0 C0 Q) l a w
def AWPI (rn : Option Nat) (P : Program) (w0 : Base) (C0 : CS) (c : Code) (Q : Exit → AState → Prop) (S : AState) : Prop :=
  ∀ a w, Sim w0 C0 S a w → c.wpIn (Fr rn) 0 P (Lift w0 C0 Q) a w
theorem awli_nil (h : Q .normal S) : AWLI rn P w0 C0 ops [] Q S := fun _ _ hs => ⟨S, hs, h⟩
theorem awli_op (ho : ∀ c, o.op ≠ .defer c) (h : AWL P w0 C0 ops [o] (fun e S' => e = .normal ∧ AWLI rn P w0 C0 ops rest Q S') S) : AWLI rn P w0 C0 ops (o :: rest) Q S := by
  intro a w hs
  have h1 := h a w hs
  unfold wpList at h1
  unfold wpListIn
  by_cases hw : Region.wanted o (yielded ops a.tmps) = true
  · rw [if_pos hw] at h1 ⊢
    have h2 : o.wp P a w (wpList P ops (Lift w0 C0 (fun e S' => e = .normal ∧ AWLI rn P w0 C0 ops rest Q S')) []) (Lift w0 C0 (fun e S' => e = .normal ∧ AWLI rn P w0 C0 ops rest Q S')) := by
      rcases h1 with h1 | ⟨_, a1, w1, S1, _, he, _⟩
      · exact h1
      · cases he
    have hn : ∀ a1 w1, wpList P ops (Lift w0 C0 (fun e S' => e = .normal ∧ AWLI rn P w0 C0 ops rest Q S')) [] a1 w1 → wpListIn (Fr rn) 0 P ops (Lift w0 C0 Q) rest a1 w1 := by
      rintro a1 w1 ⟨S1, hs1, _, h⟩
      exact h a1 w1 hs1
    refine ⟨fun _ _ => trivial, ?_⟩
    rw [Oper.semAt_eq _ _ _ ho]
    unfold Oper.wp at h2
    generalize (execOp a.eval o).run P w = res at h2
    cases res with
    | ok x w1 =>
      cases x with
      | value v => exact hn _ _ h2
      | skip => exact hn _ _ h2
      | defer d => exact hn _ _ h2
      | enter f args =>
        refine ⟨fun h => by simp [Fr, Fence.wide] at h, callsIn_fr _ (Calls.mono h2 ?_)⟩
        intro e w2 he
        cases e with
        | returned v => exact hn _ _ he
        | panicked chain => obtain ⟨S1, _, he, _⟩ := he; cases he
        | outgrown => obtain ⟨a1, w1, S1, _, he, _⟩ := he; cases he
      | row r args => exact ⟨fun h => by simp [Fr, Fence.wide] at h, rowsIn_fr _ (h2.mono fun v w' h => hn _ _ h)⟩
      | _ => exact h2.elim
    | halt x w1 =>
      cases x with
      | panic v => obtain ⟨S1, _, he, _⟩ := h2; cases he
      | _ => exact h2.elim
  · rw [if_neg hw] at h1 ⊢
    obtain ⟨S1, hs1, _, h⟩ := h1
    exact ⟨fun _ _ => trivial, h _ _ hs1⟩
theorem awp_regionI {id : Nat} {l : List Oper} (h : AWLI none P w0 C0 l.toArray l Q S) : AWP P w0 C0 (.region id l.toArray false) Q S :=
  fun a w hs => wpIn_wide.1 (wpIn_region_lit (h a w hs))
theorem awpi_region {id : Nat} {l : List Oper} (h : AWLI rn P w0 C0 l.toArray l Q S) : AWPI rn P w0 C0 (.region id l.toArray false) Q S :=
  fun a w hs => wpIn_region_lit (h a w hs)
theorem awpi_skip (h : Q .normal S) : AWPI rn P w0 C0 .skip Q S := fun _ _ hs => wpIn_skip ⟨S, hs, h⟩
theorem awpi_seq {x y : Code} (h : AWPI rn P w0 C0 x (XThen (fun S => AWPI rn P w0 C0 y Q S) Q) S) : AWPI rn P w0 C0 (.seq x y) Q S := by
  intro a w hs
  refine wpIn_seq (wpIn_mono (h a w hs) ?_)
  rintro e a' w' ⟨S1, hs1, hq⟩
  cases e with
  | normal => exact hq a' w' hs1
  | _ => exact ⟨S1, hs1, hq⟩
theorem awpi_block {id : Nat} {c : Code} (h : AWPI rn P w0 C0 c (XBlock id Q) S) : AWPI rn P w0 C0 (.block id c) Q S := by
  intro a w hs
  refine wpIn_block (wpIn_mono (h a w hs) ?_)
  rintro e a' w' ⟨S1, hs1, hq⟩
  cases e with
  | exit id' =>
    by_cases hid : id' = id
    · simp only [XBlock, hid, if_true] at hq; simp only [Exit.inBlock, hid, if_true]; exact ⟨S1, hs1, hq⟩
    · simp only [XBlock, hid, if_false] at hq; simp only [Exit.inBlock, hid, if_false]; exact ⟨S1, hs1, hq⟩
  | _ => exact ⟨S1, hs1, hq⟩
theorem awpi_cond {c : Operand} {x y : Code} {b : Bool} (hc : S.ev c = some (.a (.v (.bool b)))) (ht : b = true → AWPI rn P w0 C0 x Q S) (hf : b = false → AWPI rn P w0 C0 y Q S) : AWPI rn P w0 C0 (.cond c x y) Q S := by
  rintro a w ⟨C, T, hs⟩
  exact wpIn_cond_split (hs.evv hc) (fun e => ht e a w ⟨C, T, hs⟩) (fun e => hf e a w ⟨C, T, hs⟩)

/-! ### the call of yield -/
def YC (Cs : CS) (P : Program) (l : Nat) (x : List AV) (wo : List OE) (R : List OE → Prop) : Prop :=
  ∀ (C : CS) (w : World) (vals : Array Value), (∀ b o v, Cs b o = some v → C b o = some v) → Com C w → Rels C x vals.toList → Objs C wo w →
    YieldAt Fence.wide 0 P l vals w (fun e w' => e = .returned (.bool true) ∧ ∃ C' nobjs, R nobjs ∧ BelowX w.heap.size (WB wo) w w' ∧ (∀ b o, b < w.heap.size → ¬ WB wo b → C' b o = C b o) ∧ Com C' w' ∧ Objs C' nobjs w' ∧ ∀ e ∈ nobjs, w.heap.size ≤ e.b ∨ WB wo e.b)
theorem YC.tr {Cs : CS} {l : Nat} {x : List AV} {wo : List OE} {R : List OE → Prop} (h : YC Cs P l x wo R) : YC Cs P l x (Tr wo) R := by
  have e : WB (Tr wo) = WB wo := funext fun b => propext wb_tr
  intro C w vals h0 h1 h2 h3
  rw [e]
  exact h C w vals h0 h1 h2 h3.untr
/-- what goes over a list of rows of values, and calls yield at each -/
def IterC (P : Program) (it : Nat) (caps : List AV) (rd : List OE) (A : List (List AV) → List AV → Prop) (G : List (List AV) → Prop) : Prop :=
  ∀ (l : Nat) (Cs : CS) (J : List (List AV) → List OE → Prop), (∀ pre x wo, J pre wo → A pre x → YC Cs P l x wo (J (pre ++ [x]))) → ∀ wo, J [] wo →
    AWC Cs P it (.v (.func (.yield l) #[] #[]) :: caps) rd wo (fun _ nobjs => ∃ xs wo', G xs ∧ J xs wo' ∧ nobjs = Tr wo')

theorem r_yield {x : Operand} {xs : List Operand} {xa : Array Operand} {tys : Array TypeId} {l : Nat} {args : List AV} {wo un : List OE} {R : List OE → Prop} (hq : w0.q = false) (mk : List OE → List OE) (hx : S.ev x = some (.a (.v (.func (.yield l) #[] #[])))) (hxa : xa = xs.toArray) (hargs : Args S xs args)
    (Cs : CS) (hcs : CsOk Cs w0 C0) (hy : YC Cs P l args wo R) (hp : (Tr wo ++ un).Perm S.objs) (hmk : ∀ nobjs, (Tr nobjs ++ un).Perm (mk nobjs)) (ht : Nat.blt t S.nt = true)
    (hr : ∀ nobjs, R nobjs → AWLI none P w0 C0 ops rest Q (AState.put ⟨S.nt, S.slots, mk nobjs⟩ t (.a (.v (.bool true))))) :
    AWLI none P w0 C0 ops (⟨some t, .call ⟨.value x, xa, tys⟩, ty, pos, aft, none⟩ :: rest) Q S := by
  rintro a w ⟨C, T, hs⟩
  subst hxa
  have hf := hs.evv hx
  have hap : (Tr wo ++ un).Pairwise (fun e e' => e.b ≠ e'.b) := (hp.pairwise_iff (fun h => fun e => h e.symm)).2 hs.apart
  have hobjs : Objs C (Tr wo) w := ⟨fun e he => by have := hs.objs e (hp.mem_iff.1 (List.mem_append.2 (.inl he))); exact ⟨this.1, this.2.1⟩, (List.pairwise_append.1 hap).1⟩
  obtain ⟨fn, tmps, assign, body, hrun, hround⟩ := hy.tr C w (xs.map a.eval).toArray (fun b o v hc => by obtain ⟨h1, h2, h3⟩ := hcs b o v hc; rw [hs.old b o h2 h3]; exact h1) ⟨hs.com, hs.one⟩ (by simpa using hargs.rels hs) hobjs
  have hexec : (execOp a.eval ⟨some t, .call ⟨.value x, xs.toArray, tys⟩, ty, pos, aft, none⟩).run P w = .ok (.round l fn tmps assign body) w := by
    simp [execOp, resolve, invoke, hf, Deferred.ofValue, Sem.run_bind, hrun]
  unfold wpListIn
  rw [if_pos (by simp [Region.wanted])]
  refine ⟨fun _ _ => trivial, ?_⟩
  rw [Oper.semAt_eq _ _ _ (fun c h => by cases h), hexec]
  refine ⟨fun h => by simp [Fr, Fence.wide] at h, RoundIn.mono hround ?_⟩
  rintro e w' ⟨rfl, C', nobjs, hR, hb, hC, hcom, hn, hnb⟩
  have hs' := hs.calledW hp (fun e he => by obtain ⟨e0, _, rfl⟩ := List.mem_map.1 he; rfl) hb (fun h => by rw [hq] at h; cases h) hC hcom hn hnb
  have hperm := hmk nobjs
  have hs2 : SimC w0 C0 C' T ⟨S.nt, S.slots, mk nobjs⟩ a w' := ⟨hs'.below, hs'.com, hs'.one, hs'.old, fun e he => hs'.objs e (hperm.mem_iff.2 he), (hperm.pairwise_iff (fun h => fun e => h e.symm)).1 hs'.apart,
    fun t k hk => ⟨(hs'.toks t k hk).1, fun e he => (hs'.toks t k hk).2 e (hperm.mem_iff.2 he)⟩, hs'.tokne, hs'.size, hs'.slots, hs'.defers, hs'.dr⟩
  exact hr nobjs hR _ _ ⟨C', T, hs2.put ht (srel_v _)⟩

/-! ### the statement -/
def SV.plain : SV → Bool
  | .a _ => true
  | .own _ _ _ => false
def putsP : List Nat → List AV → AState → AState
  | [], _, S => S
  | _ :: _, [], S => S
  | p :: ps, c :: cs, S => putsP ps cs (S.put p (.a c))
/-- a round -/
def RoundC (P : Program) (S : AState) (ps : Array Tmp) (assign body : Code) (sl : List (Nat × SV)) (JU : List (List AV) → List OE → Prop) (A : List (List AV) → List AV → Prop) : Prop :=
  ∀ (l : Nat) (pre : List (List AV)) (x : List AV) (wo : List OE) (rec busy : Loop) (w0 : Base) (C0 : CS), w0.q = false → JU pre wo → A pre x →
    AWPI (some l) P w0 C0 assign (fun e S1 => e = .normal ∧ ∃ i, S1.objs[i]? = some ⟨l, true, .loop rec⟩ ∧
      AWPI (some l) P w0 C0 body (fun e S' => e = .normal ∧ ∃ wo' : List OE, JU (pre ++ [x]) wo' ∧ (wo' ++ [(⟨l, true, .loop busy⟩ : OE)]).Sublist S'.objs ∧ ∀ e ∈ wo', e.rw = true) ⟨S1.nt, S1.slots, S1.objs.set i ⟨l, true, .loop busy⟩⟩)
      (putsP ps.toList x ⟨S.nt, sl, Tr wo ++ [⟨l, true, .loop rec⟩]⟩)

theorem SimC.sub (h : SimC w0 C0 C T S a w) {objs : List OE} (hsub : objs.Sublist S.objs) : SimC w0 C0 C T ⟨S.nt, S.slots, objs⟩ a w :=
  ⟨h.below, h.com, h.one, h.old, fun e he => h.objs e (hsub.mem he), h.apart.sublist hsub, fun t k hk => ⟨(h.toks t k hk).1, fun e he => (h.toks t k hk).2 e (hsub.mem he)⟩, h.tokne, h.size, h.slots, h.defers, h.dr⟩
theorem tr_tr (l : List OE) : Tr (Tr l) = Tr l := by simp [Tr]
theorem putsP_sim : ∀ {ps : List Nat} {x : List AV} {vals : List Value} {S : AState} {a : Act}, SimC w0 C0 C T S a w → Rels C x vals → ps.all (fun p => Nat.blt p S.nt) = true → ps.length = x.length →
    SimC w0 C0 C T (putsP ps x S) { a with tmps := (ps.zip vals).foldl (fun t (p, v) => t.setIfInBounds p v) a.tmps } w
  | [], [], vals, S, a, h, hr, _, _ => by rw [hr.nil_inv]; exact h
  | p :: ps, c :: cs, vals, S, a, h, hr, hb, hl => by
    obtain ⟨v, vs, rfl, h1, h2⟩ := hr.cons_inv
    simp only [List.all_cons, Bool.and_eq_true] at hb
    have h' : SimC w0 C0 C T (S.put p (.a c)) (a.put (some p) v) w := h.put hb.1 h1
    have := putsP_sim h' h2 hb.2 (by simpa using hl)
    exact this
  | [], _ :: _, _, _, _, _, _, _, hl => by simp at hl
  | _ :: _, [], _, _, _, _, _, _, hl => by simp at hl

theorem round_yc {ps : Array Tmp} {assign body : Code} {sl : List (Nat × SV)} {JU : List (List AV) → List OE → Prop} {A : List (List AV) → List AV → Prop} (hR : RoundC P S ps assign body sl JU A)
    {l fn : Nat} {tmps : Array Value} {D : Nat} {Cs : CS} {Ts : TS} (hsz : tmps.size = S.nt) (hps : ps.toList.all (fun p => Nat.blt p S.nt) = true) (hA : ∀ pre x, A pre x → x.length = ps.size) (hpl : sl.all (fun p => p.2.plain) = true)
    (hsl : ∀ t x, find t sl = some x → SRel Cs Ts x (tmps.getD t undef)) :
    ∀ pre x wo, JU pre wo → A pre x → ∀ (C : CS) (w : World) (vals : Array Value), Com C w → Rels C x vals.toList → Objs C (⟨l, true, .loop ⟨.ready, none, fn, tmps, ps, assign, body, D⟩⟩ :: wo) w → (∀ b o v, Cs b o = some v → C b o = some v) →
      YieldAt Fence.wide 0 P l vals w (fun e w' => e = .returned (.bool true) ∧ ∃ C' wo', JU (pre ++ [x]) wo' ∧ BelowX w.heap.size (WB (⟨l, true, .loop ⟨.ready, none, fn, tmps, ps, assign, body, D⟩⟩ :: wo)) w w' ∧
        (∀ b o, b < w.heap.size → ¬ WB (⟨l, true, .loop ⟨.ready, none, fn, tmps, ps, assign, body, D⟩⟩ :: wo) b → C' b o = C b o) ∧ Com C' w' ∧ Objs C' (⟨l, true, .loop ⟨.ready, none, fn, tmps, ps, assign, body, D⟩⟩ :: wo') w' ∧
        ∀ e ∈ (⟨l, true, .loop ⟨.ready, none, fn, tmps, ps, assign, body, D⟩⟩ :: wo' : List OE), w.heap.size ≤ e.b ∨ WB (⟨l, true, .loop ⟨.ready, none, fn, tmps, ps, assign, body, D⟩⟩ :: wo) e.b) := by
  intro pre x wo hj hax C w vals hcom hrel hobjs hmono
  have hl : w.heap[l]? = some (.loop ⟨.ready, none, fn, tmps, ps, assign, body, D⟩) := (hobjs.1 ⟨l, true, .loop ⟨.ready, none, fn, tmps, ps, assign, body, D⟩⟩ List.mem_cons_self).1
  have hvs : vals.size = ps.size := by have := hrel.1; have := hA pre x hax; simp at *; omega
  refine ⟨fn, (ps.zip vals).foldl (fun t (p, v) => t.setIfInBounds p v) tmps, assign, body, run_yield (P := P) (args := vals) hl hvs, roundIn_of_wpIn trivial ?_⟩
  obtain ⟨rec, hrec⟩ : ∃ rec : Loop, rec = ⟨.ready, none, fn, tmps, ps, assign, body, D⟩ := ⟨_, rfl⟩
  rw [← hrec] at hl hobjs ⊢
  have hst : rec.state = .ready := by rw [hrec]
  have hpe : rec.pending = none := by rw [hrec]
  -- the state in which the round begins
  have hs0 : SimC ⟨w, WB (⟨l, true, .loop rec⟩ :: wo), false⟩ C C (fun _ => none) ⟨S.nt, sl, Tr wo ++ [⟨l, true, .loop rec⟩]⟩ ⟨tmps, []⟩ w := by
    obtain ⟨ap1, ap2⟩ := List.pairwise_cons.1 hobjs.2
    refine ⟨BelowX.refl _, hcom.1, hcom.2, fun _ _ _ _ => rfl, ?_, ?_, by simp, by simp, hsz, ?_, Defs.nil, fun _ => Nat.le_refl _⟩
    · intro e he
      rcases List.mem_append.1 he with he | he
      · obtain ⟨e0, h0, rfl⟩ := List.mem_map.1 he
        have := hobjs.1 e0 (List.mem_cons_of_mem _ h0)
        exact ⟨this.1, this.2, fun _ => .inr ⟨e0, List.mem_cons_of_mem _ h0, rfl⟩⟩
      · obtain rfl := List.mem_singleton.1 he
        have := hobjs.1 _ (List.mem_cons_self)
        exact ⟨this.1, this.2, fun _ => .inr ⟨_, List.mem_cons_self, rfl⟩⟩
    · refine List.pairwise_append.2 ⟨List.pairwise_map.2 ap2, by simp, fun e he e' he' => ?_⟩
      obtain ⟨e0, h0, rfl⟩ := List.mem_map.1 he
      obtain rfl := List.mem_singleton.1 he'
      exact fun h => ap1 e0 h0 h.symm
    · intro t y hy
      have hpl' := List.all_eq_true.1 hpl _ (find_mem hy)
      have := hsl t y hy
      cases y with
      | a z => exact Rel.mono hmono this
      | own tok sz l => simp [SV.plain] at hpl'
  have hzip : (ps.toList.zip vals.toList).foldl (fun t (p, v) => t.setIfInBounds p v) tmps = (ps.zip vals).foldl (fun t (p, v) => t.setIfInBounds p v) tmps := by
    rw [← Array.foldl_toList, Array.toList_zip]
  have hs1 : SimC ⟨w, WB (⟨l, true, .loop rec⟩ :: wo), false⟩ C C (fun _ => none) (putsP ps.toList x ⟨S.nt, sl, Tr wo ++ [⟨l, true, .loop rec⟩]⟩) ⟨(ps.zip vals).foldl (fun t (p, v) => t.setIfInBounds p v) tmps, []⟩ w := by
    rw [← hzip]; exact putsP_sim (ps := ps.toList) hs0 hrel hps (by simp [hA pre x hax])
  have hround := hR l pre x wo rec { rec with state := .busy } _ C rfl hj hax _ w ⟨_, _, hs1⟩
  refine wpIn_mono hround ?_
  rintro e a1 w1 ⟨S1, ⟨C1, T1, hs1'⟩, rfl, i, hi, hbody⟩
  have hl1 : w1.heap[l]? = some (.loop rec) := (hs1'.objs _ (mem_of_get hi)).1
  have hlt1 : l < w1.heap.size := (Array.getElem?_eq_some_iff.1 hl1).1
  refine ⟨_, run_beginRound hl1 hst, ?_⟩
  have hs2 := hs1'.setObj (ob' := .loop { rec with state := .busy }) hi (w' := w1.putObj l (.loop { rec with state := .busy })) (Nat.le_refl _) rfl rfl rfl (by simp) (fun k hk => World.putObj_heap_other hk) (World.putObj_heap_same hlt1)
  refine wpIn_mono (hbody _ _ ⟨_, _, hs2⟩) ?_
  rintro e a3 w3 ⟨S3, ⟨C3, T3, hs3⟩, rfl, wo', hj', hsub, hrw⟩
  have hm : (⟨l, true, .loop { rec with state := .busy }⟩ : OE) ∈ S3.objs := hsub.mem (by simp)
  obtain ⟨k, hk⟩ := List.getElem?_of_mem hm
  have hl3 : w3.heap[l]? = some (.loop { rec with state := .busy }) := (hs3.objs _ hm).1
  have hlt3 : l < w3.heap.size := (Array.getElem?_eq_some_iff.1 hl3).1
  have hback : ({ { rec with state := LoopState.busy } with state := if (none : Option Code).isNone then LoopState.ready else .done, pending := none } : Loop) = rec := by rw [hrec]; rfl
  refine ⟨_, _, run_endRound none hl3, ?_⟩
  rw [hback]
  have hap3 := hs3.apart.sublist hsub
  obtain ⟨ap1, _, ap2⟩ := List.pairwise_append.1 hap3
  have hC3 : ∀ o, C3 l o = none := (hs3.objs _ hm).2.1
  have hhp : ∀ k, k ≠ l → (w3.putObj l (.loop rec)).heap[k]? = w3.heap[k]? := fun k hk => World.putObj_heap_other hk
  have hwl : WB (⟨l, true, .loop rec⟩ :: wo) l := ⟨_, List.mem_cons_self, rfl⟩
  refine ⟨rfl, C3, wo', hj', ?_, hs3.old, ⟨fun b o v hc => ?_, hs3.one⟩, ⟨fun e he => ?_, ?_⟩, fun e he => ?_⟩
  · exact hs3.below.trans ⟨rfl, rfl, rfl, by simp, fun k _ hn => hhp k (fun e => by subst e; exact hn hwl)⟩
  · have hne : b ≠ l := fun e => by subst e; rw [hC3 o] at hc; cases hc
    exact (World.cell?_of_block (w := w3) (a := ⟨b, o, none⟩) (hhp b hne)).trans (hs3.com _ _ _ hc)
  · rcases List.mem_cons.1 he with rfl | he
    · exact ⟨World.putObj_heap_same hlt3, hC3⟩
    · have := hs3.objs e (hsub.mem (List.mem_append.2 (.inl he)))
      exact ⟨this.1.mono (fun _ _ _ x => x) (hhp _ (ap2 e he _ (List.mem_singleton.2 rfl))), this.2.1⟩
  · exact List.pairwise_cons.2 ⟨fun e he h => ap2 e he _ (List.mem_singleton.2 rfl) h.symm, ap1⟩
  · rcases List.mem_cons.1 he with rfl | he
    · exact .inr hwl
    · have := (hs3.objs e (hsub.mem (List.mem_append.2 (.inl he)))).2.2 (hrw e he)
      exact this

theorem awp_rangeFunc {g : Operand} {ps : Array Tmp} {assign body : Code} {it : Nat} {caps : List AV} {rd wo un : List OE} {A : List (List AV) → List AV → Prop} {G : List (List AV) → Prop} (JU : List (List AV) → List OE → Prop) (sl : List (Nat × SV)) (mask : List Bool)
    (hq : w0.q = false) (hg : S.ev g = some (.a (.fn it caps))) (hit : IterC P it caps rd A G) (hen : entersT P it) (hA : ∀ pre x, A pre x → x.length = ps.size) (hwo : sel mask S.objs = wo) (hrw : wo.all (·.rw) = true) (hun : unsel mask S.objs = un) (hrd : rd.Sublist un)
    (hsl : Slots S sl) (hpl : sl.all (fun p => p.2.plain) = true) (hps : ps.toList.all (fun p => Nat.blt p S.nt) = true) (h0 : JU [] wo) (hround : RoundC P S ps assign body sl JU A)
    (hr : ∀ xs wo', G xs → JU xs wo' → Q .normal ⟨S.nt, S.slots, Tr wo' ++ un⟩) : AWP P w0 C0 (.rangeFunc g ps assign body) Q S := by
  rintro a w ⟨C, T, hs⟩
  refine wpIn_wide.1 (wpIn_rangeFunc (n := 0) ?_)
  intro fn _
  have hp : (wo ++ un).Perm S.objs := by rw [← hwo, ← hun]; exact sel_perm mask S.objs
  have hf := hs.ev hg
  generalize hv : a.eval g = u at hf
  obtain ⟨arr, rfl⟩ : ∃ arr, u = .func (.func it) #[] arr := by cases hf; exact ⟨_, rfl⟩
  have hcaps := rel_fn.1 hf
  obtain ⟨rec, hrec⟩ : ∃ rec : Loop, rec = ⟨.ready, none, fn, a.tmps, ps, assign, body, w.heap.size⟩ := ⟨_, rfl⟩
  have hs1 := hs.mark
  have hs2 := hs1.newObj (.loop rec) (o := .loop rec) (by have := heap_alloc_at (w.alloc (.deferred (some []))) (.loop rec); exact this)
  obtain ⟨W1, hW1⟩ : ∃ W1, (w.alloc (.deferred (some []))).alloc (.loop rec) = W1 := ⟨_, rfl⟩
  have hl1 : (w.alloc (.deferred (some []))).heap.size = w.heap.size + 1 := by simp
  rw [hW1, hl1] at hs2
  refine ⟨w.heap.size + 1, [{ target := .collected w.heap.size, args := #[] }], W1, { target := .fn (.func it) arr, args := #[.func (.yield (w.heap.size + 1)) #[] #[]] }, W1, it,
    #[.func (.yield (w.heap.size + 1)) #[] #[]] ++ arr, W1, ?_, ?_, fun _ _ => trivial, ?_, fun h => by simp [Fence.wide] at h, ?_⟩
  · rw [← hW1, hrec]; exact run_enterLoop_outer _ _ _ _ _
  · simp only [resolve, hv]
    simp [go_sem]
  · have hen' := hen (#[Value.func (.yield (w.heap.size + 1)) #[] #[]] ++ arr) W1
    simp only [invoke, Sem.run] at hen' ⊢
    first | exact hen' | simpa [go_sem] using hen'
  · refine callsIn_wide.2 ?_
    -- the objects that the iterator is handed
    have hrel : Rels C (.v (.func (.yield (w.heap.size + 1)) #[] #[]) :: caps) (#[Value.func (.yield (w.heap.size + 1)) #[] #[]] ++ arr).toList := by simpa using Rels.cons (Rel.v _) hcaps
    have hp2 : ((⟨w.heap.size + 1, true, .loop rec⟩ :: wo) ++ un).Perm ((⟨w.heap.size + 1, true, .loop rec⟩ : OE) :: S.objs) := hp.cons _
    have hap : ((⟨w.heap.size + 1, true, .loop rec⟩ :: wo) ++ un : List OE).Pairwise (fun e e' => e.b ≠ e'.b) := (hp2.pairwise_iff (fun h => fun e => h e.symm)).2 hs2.apart
    have hobjs : Objs C (rd ++ (⟨w.heap.size + 1, true, .loop rec⟩ :: wo)) W1 := by
      refine ⟨fun e he => ?_, ?_⟩
      · have : e ∈ (⟨w.heap.size + 1, true, .loop rec⟩ : OE) :: S.objs := hp2.mem_iff.1 (List.mem_append.2 (by rcases List.mem_append.1 he with h | h; exact .inr (hrd.mem h); exact .inl h))
        exact ⟨(hs2.objs e this).1, (hs2.objs e this).2.1⟩
      · obtain ⟨h1, h2, h3⟩ := List.pairwise_append.1 hap
        exact List.pairwise_append.2 ⟨h2.sublist hrd, h1, fun e he e' he' h => h3 e' he' e (hrd.mem he) h.symm⟩
    have hyc := round_yc hround (l := w.heap.size + 1) (fn := fn) (tmps := a.tmps) (D := w.heap.size) (Cs := C) (Ts := T) hs.size hps hA hpl (fun t x hx => by
      obtain ⟨y, hy, hle⟩ := hsl.mem (find_mem hx)
      exact hle.rel (hs.slots t y hy))
    rw [← hrec] at hyc
    have hpe : rec.pending = none := by rw [hrec]
    have hst : rec.state = .ready := by rw [hrec]
    have hcall := hit (w.heap.size + 1) C (fun pre wo1 => ∃ wo', wo1 = ⟨w.heap.size + 1, true, .loop rec⟩ :: wo' ∧ JU pre wo') (by
      rintro pre x wo1 ⟨wo', rfl, hj⟩ hax C1 w1 vals hm hc hrl hob
      refine YieldAt.mono (hyc pre x wo' hj hax C1 w1 vals hc hrl hob hm) ?_
      rintro e w' ⟨rfl, C', wo2, hj2, g1, g2, g3, g4, g5⟩
      exact ⟨rfl, C', _, ⟨wo2, rfl, hj2⟩, g1, g2, g3, g4, g5⟩) (⟨w.heap.size + 1, true, .loop rec⟩ :: wo) ⟨wo, rfl, h0⟩ C W1 _ (fun _ _ _ h => h) ⟨hs2.com, hs2.one⟩ hrel hobjs
    refine hcall.mono ?_
    rintro e w3 ⟨v, C3, r, nobjs, rfl, ⟨xs, wo1, hG, ⟨wo', rfl, hj⟩, rfl⟩, hb, hC, hcom, _, hn, hnb⟩
    have hs3 := hs2.calledW hp2 (fun e he => by rcases List.mem_cons.1 he with rfl | he; rfl; exact List.all_eq_true.1 hrw e he) hb (fun h => by rw [hq] at h; cases h) hC hcom hn hnb
    rw [tr_tr] at hs3
    have hi0 : (Tr (⟨w.heap.size + 1, true, .loop rec⟩ :: wo') ++ un)[0]? = some ⟨w.heap.size + 1, true, .loop rec⟩ := rfl
    have hl3 : w3.heap[w.heap.size + 1]? = some (.loop rec) := (hs3.objs _ (mem_of_get hi0)).1
    have hend := run_endLoop (P := P) hl3 (by rw [hst]; simp)
    rw [hpe] at hend
    refine ⟨none, _, hend, ?_⟩
    have hs4 := hs3.setObj (ob' := .loop { rec with state := .exhausted }) hi0 (w' := w3.putObj (w.heap.size + 1) (.loop { rec with state := .exhausted })) (Nat.le_refl _) rfl rfl rfl (by simp) (fun k hk => World.putObj_heap_other hk) (World.putObj_heap_same (Array.getElem?_eq_some_iff.1 hl3).1)
    have hs5 := hs4.sub (objs := Tr wo' ++ un) (by simp [Tr])
    rw [hpe] at hs5
    exact ⟨_, ⟨C3, T, hs5⟩, hr xs wo' hG hj⟩
end Go.Proofs.Ytmbfmnhcahhciaa.A

import Derived.WalkKit
import Derived.Below
import Derived.Laws.Rows
import Derived.Laws.CopyRow
import Derived.Laws.AppendOwn
import Derived.RangeFuncLeaves
import Derived.RangeFuncSeq
import Derived.RangeFuncCalls
import Derived.MapKept
import Derived.Orders
import Derived.Laws.IdiomStrings
import Derived.Laws.BytesArg
import Derived.Shelf.SlIter.Nil
import Derived.RangeFuncBound
import Derived.Maps.RangeRun
import Derived.DeepKeys3
import Derived.Laws.StructEq
import Derived.Shelf.SlSortCmp.NoneTotal
import Derived.ChangeKeysEq
import Derived.Laws.MakeOwn
import Derived.ChangeArms
import Derived.ChangeOld
import Derived.Laws.DeepStrings4
import Derived.OpenShut
import Derived.Test.YtpkodkoooaldlaaProg
import Derived.KernelRfl
import Derived.OrdersIn
import Derived.Lib.AppendZeros
import Derived.Lib.AppendZerosOnto
import Derived.Lib.Overlaps
import Derived.Deep.AppendSrc
import Derived.Scope
import Derived.Shelf.SlGeneric
import Derived.Ground.SlsfProg
import Derived.Ground.SlmcProg
import Derived.Shelf.SlMaps.Clone
import Derived.Test.YtpkodkoooaldlaaM1
namespace Go.Proofs.Ytpkodkoooaldlaa.A
open Go Go.RowKit
set_option linter.unusedVariables false
set_option linter.unusedSimpArgs false
set_option linter.unusedSectionVars false
variable {P : Program} {w0 : Base} {C0 C : CS} {T : TS} {S S' : AState} {a : Act} {w : World} {ops : Array Oper} {rest : List Oper} {o : Oper} {Q : Exit → AState → Prop}
variable {t : Nat} {ty ty' : TypeId} {pos : String} {aft : Array Edge} {rn : Option Nat}
def Fr (rn : Option Nat) : Fence := { Fence.wide with round := rn }
theorem callsIn_fr {f : FuncId} {args : Array Value} {R : Ending → World → Prop} (n : Nat) (h : Calls P f args w R) : CallsIn (Fr rn) n P f args w R := (callsIn_wide (n := n)).2 h
theorem rowsIn_fr {row : String} {args : Array Value} {R : Value → World → Prop} (n : Nat) (h : Rows P row args w R) : RowsIn (Fr rn) n P row args w R :=
  fun c cs _ => let ⟨v, w', h1, h2⟩ := h c cs; ⟨v, w', h1, stepsIn_wide.2 h2⟩
def AWLI (rn : Option Nat) (P : Program) (w0 : Base) (C0 : CS) (ops : Array Oper) (l : List Oper) (Q : Exit → AState → Prop) (S : AState) : Prop :=
  ∀ a w, Sim w0 C0 S a w → wpListIn (Fr rn) 0 P ops (Lift w0 C0 Q) l a w
def AWPI (rn : Option Nat) (P : Program) (w0 : Base) (C0 : CS) (c : Code) (Q : Exit → AState → Prop) (S : AState) : Prop :=
  ∀ a w, Sim w0 C0 S a w → c.wpIn (Fr rn) 0 P (Lift w0 C0 Q) a w
theorem awli_nil (h : Q .normal S) : AWLI rn P w0 C0 ops [] Q S := fun _ _ hs => ⟨S, hs, h⟩
theorem awli_op (ho : ∀ c, o.op ≠ .defer c) (h : AWL P w0 C0 ops [o] (fun e S' => e = .normal ∧ AWLI rn P w0 C0 ops rest Q S') S) : AWLI rn P w0 C0 ops (o :: rest) Q S := by
  intro a w hs
  have h1 := h a w hs
  unfold wpList at h1
  unfold wpListIn
  by_cases hw : Region.wanted o (yielded ops a.tmps) = true
  · rw [if_pos hw] at h1 ⊢
    have h2 : o.wp P a w (wpList P ops (Lift w0 C0 (fun e S' => e = .normal ∧ AWLI rn P w0 C0 ops rest Q S')) []) (Lift w0 C0 (fun e S' => e = .normal ∧ AWLI rn P w0 C0 ops rest Q S')) := by
      rcases h1 with h1 | ⟨_, a1, w1, S1, _, he, _⟩
      · exact h1
      · cases he
    have hn : ∀ a1 w1, wpList P ops (Lift w0 C0 (fun e S' => e = .normal ∧ AWLI rn P w0 C0 ops rest Q S')) [] a1 w1 → wpListIn (Fr rn) 0 P ops (Lift w0 C0 Q) rest a1 w1 := by
      rintro a1 w1 ⟨S1, hs1, _, h⟩
      exact h a1 w1 hs1
    refine ⟨fun _ _ => trivial, ?_⟩
    rw [Oper.semAt_eq _ _ _ ho]
    unfold Oper.wp at h2
    generalize (execOp a.eval o).run P w = res at h2
    cases res with
    | ok x w1 =>
      cases x with
      | value v => exact hn _ _ h2
      | skip => exact hn _ _ h2
      | defer d => exact hn _ _ h2
      | enter f args =>
        refine ⟨fun h => by simp [Fr, Fence.wide] at h, callsIn_fr _ (Calls.mono h2 ?_)⟩
        intro e w2 he
        cases e with
        | returned v => exact hn _ _ he
        | panicked chain => obtain ⟨S1, _, he, _⟩ := he; cases he
        | outgrown => obtain ⟨a1, w1, S1, _, he, _⟩ := he; cases he
      | row r args => exact ⟨fun h => by simp [Fr, Fence.wide] at h, rowsIn_fr _ (h2.mono fun v w' h => hn _ _ h)⟩
      | _ => exact h2.elim
    | halt x w1 =>
      cases x with
      | panic v => obtain ⟨S1, _, he, _⟩ := h2; cases he
      | _ => exact h2.elim
  · rw [if_neg hw] at h1 ⊢
    obtain ⟨S1, hs1, _, h⟩ := h1
    exact ⟨fun _ _ => trivial, h _ _ hs1⟩
theorem awp_regionI {id : Nat} {l : List Oper} (h : AWLI none P w0 C0 l.toArray l Q S) : AWP P w0 C0 (.region id l.toArray false) Q S :=
  fun a w hs => wpIn_wide.1 (wpIn_region_lit (h a w hs))
theorem awpi_region {id : Nat} {l : List Oper} (h : AWLI rn P w0 C0 l.toArray l Q S) : AWPI rn P w0 C0 (.region id l.toArray false) Q S :=
  fun a w hs => wpIn_region_lit (h a w hs)
theorem awpi_skip (h : Q .normal S) : AWPI rn P w0 C0 .skip Q S := fun _ _ hs => wpIn_skip ⟨S, hs, h⟩
theorem awpi_seq {x y : Code} (h : AWPI rn P w0 C0 x (XThen (fun S => AWPI rn P w0 C0 y Q S) Q) S) : AWPI rn P w0 C0 (.seq x y) Q S := by
  intro a w hs
  refine wpIn_seq (wpIn_mono (h a w hs) ?_)
  rintro e a' w' ⟨S1, hs1, hq⟩
  cases e with
  | normal => exact hq a' w' hs1
  | _ => exact ⟨S1, hs1, hq⟩
theorem awpi_block {id : Nat} {c : Code} (h : AWPI rn P w0 C0 c (XBlock id Q) S) : AWPI rn P w0 C0 (.block id c) Q S := by
  intro a w hs
  refine wpIn_block (wpIn_mono (h a w hs) ?_)
  rintro e a' w' ⟨S1, hs1, hq⟩
  cases e with
  | exit id' =>
    by_cases hid : id' = id
    · simp only [XBlock, hid, if_true] at hq; simp only [Exit.inBlock, hid, if_true]; exact ⟨S1, hs1, hq⟩
    · simp only [XBlock, hid, if_false] at hq; simp only [Exit.inBlock, hid, if_false]; exact ⟨S1, hs1, hq⟩
  | _ => exact ⟨S1, hs1, hq⟩
theorem awpi_cond {c : Operand} {x y : Code} {b : Bool} (hc : S.ev c = some (.a (.v (.bool b)))) (ht : b = true → AWPI rn P w0 C0 x Q S) (hf : b = false → AWPI rn P w0 C0 y Q S) : AWPI rn P w0 C0 (.cond c x y) Q S := by
  rintro a w ⟨C, T, hs⟩
  exact wpIn_cond_split (hs.evv hc) (fun e => ht e a w ⟨C, T, hs⟩) (fun e => hf e a w ⟨C, T, hs⟩)
def YC (Cs : CS) (P : Program) (l : Nat) (x : List AV) (wo : List OE) (R : List OE → Prop) : Prop :=
  ∀ (C : CS) (w : World) (vals : Array Value), (∀ b o v, Cs b o = some v → C b o = some v) → Com C w → Rels C x vals.toList → Objs C wo w →
    YieldAt Fence.wide 0 P l vals w (fun e w' => e = .returned (.bool true) ∧ ∃ C' nobjs, R nobjs ∧ BelowX w.heap.size (WB wo) w w' ∧ (∀ b o, b < w.heap.size → ¬ WB wo b → C' b o = C b o) ∧ Com C' w' ∧ Objs C' nobjs w' ∧ ∀ e ∈ nobjs, w.heap.size ≤ e.b ∨ WB wo e.b)
theorem YC.tr {Cs : CS} {l : Nat} {x : List AV} {wo : List OE} {R : List OE → Prop} (h : YC Cs P l x wo R) : YC Cs P l x (Tr wo) R := by
  have e : WB (Tr wo) = WB wo := funext fun b => propext wb_tr
  intro C w vals h0 h1 h2 h3
  rw [e]
  exact h C w vals h0 h1 h2 h3.untr
def IterC (P : Program) (it : Nat) (caps : List AV) (rd : List OE) (A : List (List AV) → List AV → Prop) (G : List (List AV) → Prop) : Prop :=
  ∀ (l : Nat) (Cs : CS) (J : List (List AV) → List OE → Prop), (∀ pre x wo, J pre wo → A pre x → YC Cs P l x wo (J (pre ++ [x]))) → ∀ wo, J [] wo →
    AWC Cs P it (.v (.func (.yield l) #[] #[]) :: caps) rd wo (fun _ nobjs => ∃ xs wo', G xs ∧ J xs wo' ∧ nobjs = Tr wo')
theorem r_yield {x : Operand} {xs : List Operand} {xa : Array Operand} {tys : Array TypeId} {l : Nat} {args : List AV} {wo un : List OE} {R : List OE → Prop} (hq : w0.q = false) (mk : List OE → List OE) (hx : S.ev x = some (.a (.v (.func (.yield l) #[] #[])))) (hxa : xa = xs.toArray) (hargs : Args S xs args)
    (Cs : CS) (hcs : CsOk Cs w0 C0) (hy : YC Cs P l args wo R) (hp : (Tr wo ++ un).Perm S.objs) (hmk : ∀ nobjs, (Tr nobjs ++ un).Perm (mk nobjs)) (ht : Nat.blt t S.nt = true)
    (hr : ∀ nobjs, R nobjs → AWLI none P w0 C0 ops rest Q (AState.put ⟨S.nt, S.slots, mk nobjs⟩ t (.a (.v (.bool true))))) :
    AWLI none P w0 C0 ops (⟨some t, .call ⟨.value x, xa, tys⟩, ty, pos, aft, none⟩ :: rest) Q S := by
  rintro a w ⟨C, T, hs⟩
  subst hxa
  have hf := hs.evv hx
  have hap : (Tr wo ++ un).Pairwise (fun e e' => e.b ≠ e'.b) := (hp.pairwise_iff (fun h => fun e => h e.symm)).2 hs.apart
  have hobjs : Objs C (Tr wo) w := ⟨fun e he => by have := hs.objs e (hp.mem_iff.1 (List.mem_append.2 (.inl he))); exact ⟨this.1, this.2.1⟩, (List.pairwise_append.1 hap).1⟩
  obtain ⟨fn, tmps, assign, body, hrun, hround⟩ := hy.tr C w (xs.map a.eval).toArray (fun b o v hc => by obtain ⟨h1, h2, h3⟩ := hcs b o v hc; rw [hs.old b o h2 h3]; exact h1) ⟨hs.com, hs.one⟩ (by simpa using hargs.rels hs) hobjs
  have hexec : (execOp a.eval ⟨some t, .call ⟨.value x, xs.toArray, tys⟩, ty, pos, aft, none⟩).run P w = .ok (.round l fn tmps assign body) w := by
    simp [execOp, resolve, invoke, hf, Deferred.ofValue, Sem.run_bind, hrun]
  unfold wpListIn
  rw [if_pos (by simp [Region.wanted])]
  refine ⟨fun _ _ => trivial, ?_⟩
  rw [Oper.semAt_eq _ _ _ (fun c h => by cases h), hexec]
  refine ⟨fun h => by simp [Fr, Fence.wide] at h, RoundIn.mono hround ?_⟩
  rintro e w' ⟨rfl, C', nobjs, hR, hb, hC, hcom, hn, hnb⟩
  have hs' := hs.calledW hp (fun e he => by obtain ⟨e0, _, rfl⟩ := List.mem_map.1 he; rfl) hb (fun h => by rw [hq] at h; cases h) hC hcom hn hnb
  have hperm := hmk nobjs
  have hs2 : SimC w0 C0 C' T ⟨S.nt, S.slots, mk nobjs⟩ a w' := ⟨hs'.below, hs'.com, hs'.one, hs'.old, fun e he => hs'.objs e (hperm.mem_iff.2 he), (hperm.pairwise_iff (fun h => fun e => h e.symm)).1 hs'.apart,
    fun t k hk => ⟨(hs'.toks t k hk).1, fun e he => (hs'.toks t k hk).2 e (hperm.mem_iff.2 he)⟩, hs'.tokne, hs'.size, hs'.slots, hs'.defers, hs'.dr⟩
  exact hr nobjs hR _ _ ⟨C', T, hs2.put ht (srel_v _)⟩
def SV.plain : SV → Bool
  | .a _ => true
  | .own _ _ _ => false
def putsP : List Nat → List AV → AState → AState
  | [], _, S => S
  | _ :: _, [], S => S
  | p :: ps, c :: cs, S => putsP ps cs (S.put p (.a c))
def RoundC (P : Program) (S : AState) (ps : Array Tmp) (assign body : Code) (sl : List (Nat × SV)) (JU : List (List AV) → List OE → Prop) (A : List (List AV) → List AV → Prop) : Prop :=
  ∀ (l : Nat) (pre : List (List AV)) (x : List AV) (wo : List OE) (rec busy : Loop) (w0 : Base) (C0 : CS), w0.q = false → JU pre wo → A pre x →
    AWPI (some l) P w0 C0 assign (fun e S1 => e = .normal ∧ ∃ i, S1.objs[i]? = some ⟨l, true, .loop rec⟩ ∧
      AWPI (some l) P w0 C0 body (fun e S' => e = .normal ∧ ∃ wo' : List OE, JU (pre ++ [x]) wo' ∧ (wo' ++ [(⟨l, true, .loop busy⟩ : OE)]).Sublist S'.objs ∧ ∀ e ∈ wo', e.rw = true) ⟨S1.nt, S1.slots, S1.objs.set i ⟨l, true, .loop busy⟩⟩)
      (putsP ps.toList x ⟨S.nt, sl, Tr wo ++ [⟨l, true, .loop rec⟩]⟩)
theorem SimC.sub (h : SimC w0 C0 C T S a w) {objs : List OE} (hsub : objs.Sublist S.objs) : SimC w0 C0 C T ⟨S.nt, S.slots, objs⟩ a w :=
  ⟨h.below, h.com, h.one, h.old, fun e he => h.objs e (hsub.mem he), h.apart.sublist hsub, fun t k hk => ⟨(h.toks t k hk).1, fun e he => (h.toks t k hk).2 e (hsub.mem he)⟩, h.tokne, h.size, h.slots, h.defers, h.dr⟩
theorem tr_tr (l : List OE) : Tr (Tr l) = Tr l := by simp [Tr]
theorem putsP_sim : ∀ {ps : List Nat} {x : List AV} {vals : List Value} {S : AState} {a : Act}, SimC w0 C0 C T S a w → Rels C x vals → ps.all (fun p => Nat.blt p S.nt) = true → ps.length = x.length →
    SimC w0 C0 C T (putsP ps x S) { a with tmps := (ps.zip vals).foldl (fun t (p, v) => t.setIfInBounds p v) a.tmps } w
  | [], [], vals, S, a, h, hr, _, _ => by rw [hr.nil_inv]; exact h
  | p :: ps, c :: cs, vals, S, a, h, hr, hb, hl => by
    obtain ⟨v, vs, rfl, h1, h2⟩ := hr.cons_inv
    simp only [List.all_cons, Bool.and_eq_true] at hb
    have h' : SimC w0 C0 C T (S.put p (.a c)) (a.put (some p) v) w := h.put hb.1 h1
    have := putsP_sim h' h2 hb.2 (by simpa using hl)
    exact this
  | [], _ :: _, _, _, _, _, _, _, hl => by simp at hl
  | _ :: _, [], _, _, _, _, _, _, hl => by simp at hl
theorem round_yc {ps : Array Tmp} {assign body : Code} {sl : List (Nat × SV)} {JU : List (List AV) → List OE → Prop} {A : List (List AV) → List AV → Prop} (hR : RoundC P S ps assign body sl JU A)
    {l fn : Nat} {tmps : Array Value} {D : Nat} {Cs : CS} {Ts : TS} (hsz : tmps.size = S.nt) (hps : ps.toList.all (fun p => Nat.blt p S.nt) = true) (hA : ∀ pre x, A pre x → x.length = ps.size) (hpl : sl.all (fun p => p.2.plain) = true)
    (hsl : ∀ t x, find t sl = some x → SRel Cs Ts x (tmps.getD t undef)) :
    ∀ pre x wo, JU pre wo → A pre x → ∀ (C : CS) (w : World) (vals : Array Value), Com C w → Rels C x vals.toList → Objs C (⟨l, true, .loop ⟨.ready, none, fn, tmps, ps, assign, body, D⟩⟩ :: wo) w → (∀ b o v, Cs b o = some v → C b o = some v) →
      YieldAt Fence.wide 0 P l vals w (fun e w' => e = .returned (.bool true) ∧ ∃ C' wo', JU (pre ++ [x]) wo' ∧ BelowX w.heap.size (WB (⟨l, true, .loop ⟨.ready, none, fn, tmps, ps, assign, body, D⟩⟩ :: wo)) w w' ∧
        (∀ b o, b < w.heap.size → ¬ WB (⟨l, true, .loop ⟨.ready, none, fn, tmps, ps, assign, body, D⟩⟩ :: wo) b → C' b o = C b o) ∧ Com C' w' ∧ Objs C' (⟨l, true, .loop ⟨.ready, none, fn, tmps, ps, assign, body, D⟩⟩ :: wo') w' ∧
        ∀ e ∈ (⟨l, true, .loop ⟨.ready, none, fn, tmps, ps, assign, body, D⟩⟩ :: wo' : List OE), w.heap.size ≤ e.b ∨ WB (⟨l, true, .loop ⟨.ready, none, fn, tmps, ps, assign, body, D⟩⟩ :: wo) e.b) := by
  intro pre x wo hj hax C w vals hcom hrel hobjs hmono
  have hl : w.heap[l]? = some (.loop ⟨.ready, none, fn, tmps, ps, assign, body, D⟩) := (hobjs.1 ⟨l, true, .loop ⟨.ready, none, fn, tmps, ps, assign, body, D⟩⟩ List.mem_cons_self).1
  have hvs : vals.size = ps.size := by have := hrel.1; have := hA pre x hax; simp at *; omega
  refine ⟨fn, (ps.zip vals).foldl (fun t (p, v) => t.setIfInBounds p v) tmps, assign, body, run_yield (P := P) (args := vals) hl hvs, roundIn_of_wpIn trivial ?_⟩
  obtain ⟨rec, hrec⟩ : ∃ rec : Loop, rec = ⟨.ready, none, fn, tmps, ps, assign, body, D⟩ := ⟨_, rfl⟩
  rw [← hrec] at hl hobjs ⊢
  have hst : rec.state = .ready := by rw [hrec]
  have hpe : rec.pending = none := by rw [hrec]
  -- the state in which the round begins
  have hs0 : SimC ⟨w, WB (⟨l, true, .loop rec⟩ :: wo), false⟩ C C (fun _ => none) ⟨S.nt, sl, Tr wo ++ [⟨l, true, .loop rec⟩]⟩ ⟨tmps, []⟩ w := by
    obtain ⟨ap1, ap2⟩ := List.pairwise_cons.1 hobjs.2
    refine ⟨BelowX.refl _, hcom.1, hcom.2, fun _ _ _ _ => rfl, ?_, ?_, by simp, by simp, hsz, ?_, Defs.nil, fun _ => Nat.le_refl _⟩
    · intro e he
      rcases List.mem_append.1 he with he | he
      · obtain ⟨e0, h0, rfl⟩ := List.mem_map.1 he
        have := hobjs.1 e0 (List.mem_cons_of_mem _ h0)
        exact ⟨this.1, this.2, fun _ => .inr ⟨e0, List.mem_cons_of_mem _ h0, rfl⟩⟩
      · obtain rfl := List.mem_singleton.1 he
        have := hobjs.1 _ (List.mem_cons_self)
        exact ⟨this.1, this.2, fun _ => .inr ⟨_, List.mem_cons_self, rfl⟩⟩
    · refine List.pairwise_append.2 ⟨List.pairwise_map.2 ap2, by simp, fun e he e' he' => ?_⟩
      obtain ⟨e0, h0, rfl⟩ := List.mem_map.1 he
      obtain rfl := List.mem_singleton.1 he'
      exact fun h => ap1 e0 h0 h.symm
    · intro t y hy
      have hpl' := List.all_eq_true.1 hpl _ (find_mem hy)
      have := hsl t y hy
      cases y with
      | a z => exact Rel.mono hmono this
      | own tok sz l => simp [SV.plain] at hpl'
  have hzip : (ps.toList.zip vals.toList).foldl (fun t (p, v) => t.setIfInBounds p v) tmps = (ps.zip vals).foldl (fun t (p, v) => t.setIfInBounds p v) tmps := by
    rw [← Array.foldl_toList, Array.toList_zip]
  have hs1 : SimC ⟨w, WB (⟨l, true, .loop rec⟩ :: wo), false⟩ C C (fun _ => none) (putsP ps.toList x ⟨S.nt, sl, Tr wo ++ [⟨l, true, .loop rec⟩]⟩) ⟨(ps.zip vals).foldl (fun t (p, v) => t.setIfInBounds p v) tmps, []⟩ w := by
    rw [← hzip]; exact putsP_sim (ps := ps.toList) hs0 hrel hps (by simp [hA pre x hax])
  have hround := hR l pre x wo rec { rec with state := .busy } _ C rfl hj hax _ w ⟨_, _, hs1⟩
  refine wpIn_mono hround ?_
  rintro e a1 w1 ⟨S1, ⟨C1, T1, hs1'⟩, rfl, i, hi, hbody⟩
  have hl1 : w1.heap[l]? = some (.loop rec) := (hs1'.objs _ (mem_of_get hi)).1
  have hlt1 : l < w1.heap.size := (Array.getElem?_eq_some_iff.1 hl1).1
  refine ⟨_, run_beginRound hl1 hst, ?_⟩
  have hs2 := hs1'.setObj (ob' := .loop { rec with state := .busy }) hi (w' := w1.putObj l (.loop { rec with state := .busy })) (Nat.le_refl _) rfl rfl rfl (by simp) (fun k hk => World.putObj_heap_other hk) (World.putObj_heap_same hlt1)
  refine wpIn_mono (hbody _ _ ⟨_, _, hs2⟩) ?_
  rintro e a3 w3 ⟨S3, ⟨C3, T3, hs3⟩, rfl, wo', hj', hsub, hrw⟩
  have hm : (⟨l, true, .loop { rec with state := .busy }⟩ : OE) ∈ S3.objs := hsub.mem (by simp)
  obtain ⟨k, hk⟩ := List.getElem?_of_mem hm
  have hl3 : w3.heap[l]? = some (.loop { rec with state := .busy }) := (hs3.objs _ hm).1
  have hlt3 : l < w3.heap.size := (Array.getElem?_eq_some_iff.1 hl3).1
  have hback : ({ { rec with state := LoopState.busy } with state := if (none : Option Code).isNone then LoopState.ready else .done, pending := none } : Loop) = rec := by rw [hrec]; rfl
  refine ⟨_, _, run_endRound none hl3, ?_⟩
  rw [hback]
  have hap3 := hs3.apart.sublist hsub
  obtain ⟨ap1, _, ap2⟩ := List.pairwise_append.1 hap3
  have hC3 : ∀ o, C3 l o = none := (hs3.objs _ hm).2.1
  have hhp : ∀ k, k ≠ l → (w3.putObj l (.loop rec)).heap[k]? = w3.heap[k]? := fun k hk => World.putObj_heap_other hk
  have hwl : WB (⟨l, true, .loop rec⟩ :: wo) l := ⟨_, List.mem_cons_self, rfl⟩
  refine ⟨rfl, C3, wo', hj', ?_, hs3.old, ⟨fun b o v hc => ?_, hs3.one⟩, ⟨fun e he => ?_, ?_⟩, fun e he => ?_⟩
  · exact hs3.below.trans ⟨rfl, rfl, rfl, by simp, fun k _ hn => hhp k (fun e => by subst e; exact hn hwl)⟩
  · have hne : b ≠ l := fun e => by subst e; rw [hC3 o] at hc; cases hc
    exact (hs3.com _ _ _ hc).keep (hhp b hne)
  · rcases List.mem_cons.1 he with rfl | he
    · exact ⟨World.putObj_heap_same hlt3, hC3⟩
    · have := hs3.objs e (hsub.mem (List.mem_append.2 (.inl he)))
      exact ⟨this.1.mono (fun _ _ _ x => x) (hhp _ (ap2 e he _ (List.mem_singleton.2 rfl))), this.2.1⟩
  · exact List.pairwise_cons.2 ⟨fun e he h => ap2 e he _ (List.mem_singleton.2 rfl) h.symm, ap1⟩
  · rcases List.mem_cons.1 he with rfl | he
    · exact .inr hwl
    · have := (hs3.objs e (hsub.mem (List.mem_append.2 (.inl he)))).2.2 (hrw e he)
      exact this
theorem awp_rangeFunc {g : Operand} {ps : Array Tmp} {assign body : Code} {it : Nat} {caps : List AV} {rd wo un : List OE} {A : List (List AV) → List AV → Prop} {G : List (List AV) → Prop} (JU : List (List AV) → List OE → Prop) (sl : List (Nat × SV)) (mask : List Bool)
    (hq : w0.q = false) (hg : S.ev g = some (.a (.fn it caps))) (hit : IterC P it caps rd A G) (hen : entersT P it) (hA : ∀ pre x, A pre x → x.length = ps.size) (hwo : sel mask S.objs = wo) (hrw : wo.all (·.rw) = true) (hun : unsel mask S.objs = un) (hrd : rd.Sublist un)
    (hsl : Slots S sl) (hpl : sl.all (fun p => p.2.plain) = true) (hps : ps.toList.all (fun p => Nat.blt p S.nt) = true) (h0 : JU [] wo) (hround : RoundC P S ps assign body sl JU A)
    (hr : ∀ xs wo', G xs → JU xs wo' → Q .normal ⟨S.nt, S.slots, Tr wo' ++ un⟩) : AWP P w0 C0 (.rangeFunc g ps assign body) Q S := by
  rintro a w ⟨C, T, hs⟩
  refine wpIn_wide.1 (wpIn_rangeFunc (n := 0) ?_)
  intro fn _
  have hp : (wo ++ un).Perm S.objs := by rw [← hwo, ← hun]; exact sel_perm mask S.objs
  have hf := hs.ev hg
  generalize hv : a.eval g = u at hf
  obtain ⟨arr, rfl⟩ : ∃ arr, u = .func (.func it) #[] arr := by cases hf; exact ⟨_, rfl⟩
  have hcaps := rel_fn.1 hf
  obtain ⟨rec, hrec⟩ : ∃ rec : Loop, rec = ⟨.ready, none, fn, a.tmps, ps, assign, body, w.heap.size⟩ := ⟨_, rfl⟩
  have hs1 := hs.mark
  have hs2 := hs1.newObj (.loop rec) (o := .loop rec) (by have := heap_alloc_at (w.alloc (.deferred (some []))) (.loop rec); exact this)
  obtain ⟨W1, hW1⟩ : ∃ W1, (w.alloc (.deferred (some []))).alloc (.loop rec) = W1 := ⟨_, rfl⟩
  have hl1 : (w.alloc (.deferred (some []))).heap.size = w.heap.size + 1 := by simp
  rw [hW1, hl1] at hs2
  refine ⟨w.heap.size + 1, [{ target := .collected w.heap.size, args := #[] }], W1, { target := .fn (.func it) arr, args := #[.func (.yield (w.heap.size + 1)) #[] #[]] }, W1, it,
    #[.func (.yield (w.heap.size + 1)) #[] #[]] ++ arr, W1, ?_, ?_, fun _ _ => trivial, ?_, fun h => by simp [Fence.wide] at h, ?_⟩
  · rw [← hW1, hrec]; exact run_enterLoop_outer _ _ _ _ _
  · simp only [resolve, hv]
    simp [go_sem]
  · have hen' := hen (#[Value.func (.yield (w.heap.size + 1)) #[] #[]] ++ arr) W1
    simp only [invoke, Sem.run] at hen' ⊢
    first | exact hen' | simpa [go_sem] using hen'
  · refine callsIn_wide.2 ?_
    -- the objects that the iterator is handed
    have hrel : Rels C (.v (.func (.yield (w.heap.size + 1)) #[] #[]) :: caps) (#[Value.func (.yield (w.heap.size + 1)) #[] #[]] ++ arr).toList := by simpa using Rels.cons (Rel.v _) hcaps
    have hp2 : ((⟨w.heap.size + 1, true, .loop rec⟩ :: wo) ++ un).Perm ((⟨w.heap.size + 1, true, .loop rec⟩ : OE) :: S.objs) := hp.cons _
    have hap : ((⟨w.heap.size + 1, true, .loop rec⟩ :: wo) ++ un : List OE).Pairwise (fun e e' => e.b ≠ e'.b) := (hp2.pairwise_iff (fun h => fun e => h e.symm)).2 hs2.apart
    have hobjs : Objs C (rd ++ (⟨w.heap.size + 1, true, .loop rec⟩ :: wo)) W1 := by
      refine ⟨fun e he => ?_, ?_⟩
      · have : e ∈ (⟨w.heap.size + 1, true, .loop rec⟩ : OE) :: S.objs := hp2.mem_iff.1 (List.mem_append.2 (by rcases List.mem_append.1 he with h | h; exact .inr (hrd.mem h); exact .inl h))
        exact ⟨(hs2.objs e this).1, (hs2.objs e this).2.1⟩
      · obtain ⟨h1, h2, h3⟩ := List.pairwise_append.1 hap
        exact List.pairwise_append.2 ⟨h2.sublist hrd, h1, fun e he e' he' h => h3 e' he' e (hrd.mem he) h.symm⟩
    have hyc := round_yc hround (l := w.heap.size + 1) (fn := fn) (tmps := a.tmps) (D := w.heap.size) (Cs := C) (Ts := T) hs.size hps hA hpl (fun t x hx => by
      obtain ⟨y, hy, hle⟩ := hsl.mem (find_mem hx)
      exact hle.rel (hs.slots t y hy))
    rw [← hrec] at hyc
    have hpe : rec.pending = none := by rw [hrec]
    have hst : rec.state = .ready := by rw [hrec]
    have hcall := hit (w.heap.size + 1) C (fun pre wo1 => ∃ wo', wo1 = ⟨w.heap.size + 1, true, .loop rec⟩ :: wo' ∧ JU pre wo') (by
      rintro pre x wo1 ⟨wo', rfl, hj⟩ hax C1 w1 vals hm hc hrl hob
      refine YieldAt.mono (hyc pre x wo' hj hax C1 w1 vals hc hrl hob hm) ?_
      rintro e w' ⟨rfl, C', wo2, hj2, g1, g2, g3, g4, g5⟩
      exact ⟨rfl, C', _, ⟨wo2, rfl, hj2⟩, g1, g2, g3, g4, g5⟩) (⟨w.heap.size + 1, true, .loop rec⟩ :: wo) ⟨wo, rfl, h0⟩ C W1 _ (fun _ _ _ h => h) ⟨hs2.com, hs2.one⟩ hrel hobjs
    refine hcall.mono ?_
    rintro e w3 ⟨v, C3, r, nobjs, rfl, ⟨xs, wo1, hG, ⟨wo', rfl, hj⟩, rfl⟩, hb, hC, hcom, _, hn, hnb⟩
    have hs3 := hs2.calledW hp2 (fun e he => by rcases List.mem_cons.1 he with rfl | he; rfl; exact List.all_eq_true.1 hrw e he) hb (fun h => by rw [hq] at h; cases h) hC hcom hn hnb
    rw [tr_tr] at hs3
    have hi0 : (Tr (⟨w.heap.size + 1, true, .loop rec⟩ :: wo') ++ un)[0]? = some ⟨w.heap.size + 1, true, .loop rec⟩ := rfl
    have hl3 : w3.heap[w.heap.size + 1]? = some (.loop rec) := (hs3.objs _ (mem_of_get hi0)).1
    have hend := run_endLoop (P := P) hl3 (by rw [hst]; simp)
    rw [hpe] at hend
    refine ⟨none, _, hend, ?_⟩
    have hs4 := hs3.setObj (ob' := .loop { rec with state := .exhausted }) hi0 (w' := w3.putObj (w.heap.size + 1) (.loop { rec with state := .exhausted })) (Nat.le_refl _) rfl rfl rfl (by simp) (fun k hk => World.putObj_heap_other hk) (World.putObj_heap_same (Array.getElem?_eq_some_iff.1 hl3).1)
    have hs5 := hs4.sub (objs := Tr wo' ++ un) (by simp [Tr])
    rw [hpe] at hs5
    exact ⟨_, ⟨C3, T, hs5⟩, hr xs wo' hG hj⟩
end Go.Proofs.Ytpkodkoooaldlaa.A
namespace Go.Proofs.Ytpkodkoooaldlaa.A
open Go Go.RowKit
set_option linter.unusedVariables false
set_option linter.unusedSimpArgs false
set_option linter.unusedSectionVars false
variable {P : Program} {w0 : Base} {C0 C : CS} {T : TS} {S S' : AState} {a : Act} {w : World} {ops : Array Oper} {rest : List Oper} {o : Oper} {Q : Exit → AState → Prop}
variable {t : Nat} {ty ty' : TypeId} {pos : String} {aft : Array Edge}
theorem SimC.perm (h : SimC w0 C0 C T S a w) {objs : List OE} (hp : objs.Perm S.objs) : SimC w0 C0 C T ⟨S.nt, S.slots, objs⟩ a w :=
  ⟨h.below, h.com, h.one, h.old, fun e he => h.objs e (hp.mem_iff.1 he), (hp.pairwise_iff (fun h => fun e => h e.symm)).2 h.apart, fun t k hk => ⟨(h.toks t k hk).1, fun e he => (h.toks t k hk).2 e (hp.mem_iff.1 he)⟩, h.tokne, h.size, h.slots, h.defers, h.dr⟩
theorem imp_perm {objs : List OE} (hp : objs.Perm S.objs) : Imp w0 C0 S ⟨S.nt, S.slots, objs⟩ := fun a w ⟨C, T, hs⟩ => ⟨C, T, hs.perm hp⟩
theorem Imp.trans {S1 S2 S3 : AState} (h : Imp w0 C0 S1 S2) (k : Imp w0 C0 S2 S3) : Imp w0 C0 S1 S3 := fun a w hs => k a w (h a w hs)
def IsVal (x : AV) (v : Value) : Prop := ∀ (C : CS) (u : Value), Rel C x u ↔ u = v
theorem isVal_v (v : Value) : IsVal (.v v) v := fun C u => ⟨fun h => by cases h; rfl, fun h => by subst h; exact .v _⟩
inductive AreVals : List AV → List Value → Prop where
  | nil : AreVals [] []
  | cons {x : AV} {v : Value} {xs : List AV} {vs : List Value} (h : IsVal x v) (r : AreVals xs vs) : AreVals (x :: xs) (v :: vs)
theorem AreVals.rels {xs : List AV} {vs : List Value} (h : AreVals xs vs) : ∀ (C : CS) (us : List Value), Rels C xs us ↔ us = vs := by
  induction h with
  | nil => exact fun C us => ⟨fun h => h.nil_inv, fun h => by subst h; exact Rels.nil⟩
  | cons h1 _ ih =>
    intro C us
    constructor
    · intro h
      obtain ⟨u, us', rfl, h2, h3⟩ := h.cons_inv
      rw [(h1 C u).1 h2, (ih C us').1 h3]
    · rintro rfl
      exact Rels.cons ((h1 C _).2 rfl) ((ih C _).2 rfl)
theorem isVal_agg {xs : List AV} {vs : List Value} (h : AreVals xs vs) : IsVal (.agg xs) (.agg vs.toArray) := fun C u => by
  constructor
  · intro hr
    obtain ⟨arr, rfl⟩ : ∃ arr, u = .agg arr := by cases hr; exact ⟨_, rfl⟩
    have := (h.rels C arr.toList).1 (rel_agg.1 hr)
    rw [← this]
  · rintro rfl
    exact rel_agg.2 (by simpa using (h.rels C vs).2 rfl)
theorem areVals_v : ∀ (vs : List Value), AreVals (vs.map .v) vs
  | [] => .nil
  | v :: vs => .cons (isVal_v v) (areVals_v vs)
theorem keyEnc_of_eq {K : Type} [DecidableEq K] {kt : TypeId} {d : TypeDesc} {ek : K → Value} (hd : P.underlying kt = some d) (hag : ∀ k, ∃ cs, ek k = .agg cs) (heq : ∀ (a b : K) (w : World), (Op.equal kt (ek a) (ek b)).run P w = .ok (decide (b = a)) w)
    (hc : ∀ (e : Bool) (k : K) (w : World), (Instr.checkKey e 10000 kt (ek k)).run P w = .ok () w) (hst : ∀ k : K, Instr.sameBits 10000 (ek k) (ek k) = true) : KeyEnc P kt ek where
  check := hc
  stay := fun k w => by simp [Instr.keyThatStays, hst]
  find := fun ents ks k w h => by
    have hask : ∀ (ents : List MapEntry) (ks : List K) (i0 : Nat), ents.map (·.key) = ks.map ek → (Instr.findAsking kt (ek k) ents i0).run P w = .ok ((mfind ks k).bind fun i => (ents[i]?).map fun e => (i0 + i, e.val)) w := by
      intro ents
      induction ents with
      | nil => intro ks i0 h; cases ks with | nil => rfl | cons _ _ => simp at h
      | cons e es ih =>
        intro ks i0 h
        cases ks with
        | nil => simp at h
        | cons x ks =>
          simp only [List.map_cons, List.cons.injEq] at h
          unfold Instr.findAsking
          simp only [Sem.run_bind, h.1, heq, Result.andThen]
          by_cases hx : x = k
          · simp [mfind, hx]
          · simp only [hx, decide_false, Bool.false_eq_true, if_false]
            rw [ih ks (i0 + 1) h.2]
            cases hm : mfind ks k with
            | none => simp [mfind, hx, hm]
            | some i => simp [mfind, hx, hm, Nat.add_assoc, Nat.add_comm 1 i]
    have hnow : ents = [] ∨ Instr.findNow d (ek k) ents 0 = none := by
      cases ents with
      | nil => exact .inl rfl
      | cons e es =>
        right
        obtain ⟨cs, hcs⟩ := hag k
        unfold Instr.findNow
        rw [hcs]
        have : Instr.sameNow d (.agg cs) e.key = none := by cases d <;> rfl
        rw [this]
    rcases hnow with rfl | hnow
    · cases ks with
      | nil => simp [Instr.findKey, run_underlying hd, Instr.findNow, mfind]
      | cons _ _ => simp at h
    · have := hask ents ks 0 h
      simp only [Nat.zero_add] at this
      simp only [Instr.findKey, Sem.run_bind, run_underlying hd, Result.andThen, hnow]
      exact this
def isIntT (P : Program) (t : TypeId) (q : IntKind) : Bool := match P.underlying t with | some (.int q') => decide (q' = q) | _ => false
theorem isIntT_un {t : TypeId} {q : IntKind} (h : isIntT P t q = true) : P.underlying t = some (.int q) := by
  unfold isIntT at h; split at h
  · rename_i q' hq; simp at h; subst h; exact hq
  · cases h
def notAgg (P : Program) (t : TypeId) : Bool := match aggT P t with | some false => true | _ => false
theorem notAgg_eq {t : TypeId} (h : notAgg P t = true) : aggT P t = some false := by
  unfold notAgg at h; split at h
  · assumption
  · cases h
theorem run_part1 {e : TypeId} (he : aggT P e = some false) {xs : Array Value} {off : Nat} {v : Value} (hx : xs[off]? = some v) (w : World) : (part e xs off).run P w = .ok v w := by
  simp [part, run_isAgg he, hx]
def ekL (q : IntKind) (l : List Int) : Value := .agg (l.map (Value.int q)).toArray
theorem sameBits_ekL (q : IntKind) (l : List Int) : Instr.sameBits 10000 (ekL q l) (ekL q l) = true := by
  simp only [ekL]
  unfold Instr.sameBits
  simp only [beq_self_eq_true, Bool.true_and, List.all_eq_true]
  intro p hp
  obtain ⟨x, hx⟩ : ∃ n, p = (Value.int q n, Value.int q n) := by
    have : ∀ (l : List Value), (∀ v ∈ l, ∃ n, v = Value.int q n) → ∀ p ∈ l.zip l, ∃ n, p = (Value.int q n, Value.int q n) := by
      intro l
      induction l with
      | nil => intro _ p hp; simp at hp
      | cons v l ih =>
        intro hl p hp
        rw [List.zip_cons_cons] at hp
        rcases List.mem_cons.1 hp with rfl | hp
        · obtain ⟨n, rfl⟩ := hl v (by simp); exact ⟨n, rfl⟩
        · exact ih (fun v hv => hl v (List.mem_cons_of_mem _ hv)) p hp
    exact this _ (fun v hv => by obtain ⟨n, _, rfl⟩ := List.mem_map.1 (by simpa using hv); exact ⟨n, rfl⟩) p hp
  subst hx
  simp [Instr.sameBits]
section
variable {K α : Type} [DecidableEq K] {ek : K → Value} {ev : α → AV} {kt et : TypeId}
theorem r_lookupK (i : Nat) (KE : KeyEnc P kt ek) {x y : Operand} {sy : SV} {b : Nat} {rw' : Bool} {m : List (K × α)} {k : K} (z : α) {mt : TypeId} (hx : S.ev x = some (.a (.v (.map (some b))))) (hi : S.objs[i]? = some ⟨b, rw', .map (encM ek ev m)⟩) (hy : S.ev y = some sy) (hyk : IsVal sy.av (ek k))
    (hmt : mapT P mt = some (kt, et)) (hz : ZeroAV P et (ev z)) (ht : Nat.blt t S.nt = true)
    (hr : AWL P w0 C0 ops rest Q (S.put t (.a (ev ((mget m k).getD z))))) : AWL P w0 C0 ops (⟨some t, .lookup mt x y false, ty, pos, aft, none⟩ :: rest) Q S :=
  awl_pure ht (fun C T a w hs => by
    obtain ⟨u, h1, h2, h3⟩ := run_look KE hmt (hs.objs _ (mem_of_get hi)).1 k z hz
    exact ⟨u, by simp [execOp, hs.evv hx, (hyk C _).1 (hs.ev hy).av, h2], h1⟩) hr
theorem r_lookupOkK (i : Nat) (KE : KeyEnc P kt ek) {x y : Operand} {sy : SV} {b : Nat} {rw' : Bool} {m : List (K × α)} {k : K} (z : α) {mt : TypeId} (hx : S.ev x = some (.a (.v (.map (some b))))) (hi : S.objs[i]? = some ⟨b, rw', .map (encM ek ev m)⟩) (hy : S.ev y = some sy) (hyk : IsVal sy.av (ek k))
    (hmt : mapT P mt = some (kt, et)) (hz : ZeroAV P et (ev z)) (ht : Nat.blt t S.nt = true)
    (hr : AWL P w0 C0 ops rest Q (S.put t (.a (.tup [ev ((mget m k).getD z), .v (.bool (mget m k).isSome)])))) : AWL P w0 C0 ops (⟨some t, .lookup mt x y true, ty, pos, aft, none⟩ :: rest) Q S :=
  awl_pure ht (fun C T a w hs => by
    obtain ⟨u, h1, h2, h3⟩ := run_look KE hmt (hs.objs _ (mem_of_get hi)).1 k z hz
    exact ⟨_, by simp [execOp, hs.evv hx, (hyk C _).1 (hs.ev hy).av, h3], rel_tup.2 (Rels.cons h1 (Rels.cons (Rel.v _) Rels.nil))⟩) hr
theorem r_mapUpdateK (i : Nat) (KE : KeyEnc P kt ek) {x y v : Operand} {sy : SV} {b : Nat} {m : List (K × α)} {k : K} (z : α) {sv : SV} {mt : TypeId} (hx : S.ev x = some (.a (.v (.map (some b))))) (hi : S.objs[i]? = some ⟨b, true, .map (encM ek ev m)⟩) (hy : S.ev y = some sy) (hyk : IsVal sy.av (ek k)) (hv : S.ev v = some sv) (hz : sv.av = ev z)
    (hmt : mapT P mt = some (kt, et))
    (hr : AWL P w0 C0 ops rest Q ⟨S.nt, S.slots, S.objs.set i ⟨b, true, .map (encM ek ev (mset m k z))⟩⟩) : AWL P w0 C0 ops (⟨none, .mapUpdate mt x y v, ty, pos, aft, none⟩ :: rest) Q S := by
  refine awl_opu rfl rfl (fun C T a w hs => ?_) hr
  have hob : ObjRel C b (.map (encM ek ev m)) w := (hs.objs _ (mem_of_get hi)).1
  have hb : b < w.heap.size := hs.objlt (mem_of_get hi)
  have hu := (hs.ev hv).av
  rw [hz] at hu
  generalize hvv : a.eval v = uv at hu
  obtain ⟨ents', clock', hrun, g1, g2, g3⟩ := run_upd KE hmt hob k z hu
  refine ⟨{ w with heap := w.heap.setIfInBounds b (.map ents' clock') }, C, T, by simp [execOp, hs.evv hx, (hyk C _).1 (hs.ev hy).av, hvv, hrun], hs.setObj hi (Nat.le_refl _) rfl rfl rfl (by simp) (fun j hj => by rw [Array.getElem?_setIfInBounds, if_neg (fun e : b = j => hj e.symm)]) ⟨ents', clock', by simp [hb], g1, g2, g3⟩⟩
end
theorem r_range (i : Nat) {x : Operand} {m : Nat} {rw' : Bool} {es : List (Value × AV)} {mt kt et : TypeId} (hx : S.ev x = some (.a (.v (.map (some m))))) (hi : S.objs[i]? = some ⟨m, rw', .map es⟩) (hmt : mapT P mt = some (kt, et)) (ht : Nat.blt t S.nt = true)
    (hr : ∀ r bs clock, bs.length = es.length → bs.Nodup → AWL P w0 C0 ops rest Q (AState.put ⟨S.nt, S.slots, ⟨r, true, .iter m clock [] clock⟩ :: S.objs.set i ⟨m, rw', .mapb es bs clock⟩⟩ t (.a (.v (.pointer (some ⟨r, 0, none⟩)))))) :
    AWL P w0 C0 ops (⟨some t, .range mt x, ty, pos, aft, none⟩ :: rest) Q S := by
  rintro a w ⟨C, T, hs⟩
  obtain ⟨ents, clock, h1, h2, h3, h4, h5⟩ := (hs.objs _ (mem_of_get hi)).1
  have hlt : i < S.objs.length := (List.getElem?_eq_some_iff.1 hi).1
  have hg : S.objs[i] = ⟨m, rw', .map es⟩ := (List.getElem?_eq_some_iff.1 hi).2
  have hbl : (ents.toList.map (·.born)).length = es.length := by have := congrArg List.length h2; simpa using this
  -- the same map, its stamps in sight
  have hs0 : SimC w0 C0 C T ⟨S.nt, S.slots, S.objs.set i ⟨m, rw', .mapb es (ents.toList.map (·.born)) clock⟩⟩ a w := by
    have hmem : ∀ e, e ∈ S.objs.set i ⟨m, rw', .mapb es (ents.toList.map (·.born)) clock⟩ → e = ⟨m, rw', .mapb es (ents.toList.map (·.born)) clock⟩ ∨ e ∈ S.objs := fun e he => by
      rcases List.mem_or_eq_of_mem_set he with h | h; exact .inr h; exact .inl h
    have hmap : (S.objs.set i ⟨m, rw', .mapb es (ents.toList.map (·.born)) clock⟩).map (·.b) = S.objs.map (·.b) := by
      rw [List.map_set]
      apply List.ext_getElem?
      intro j
      rw [List.getElem?_set]
      by_cases hij : i = j
      · subst hij; simp [hlt, hg]
      · simp [hij]
    refine ⟨hs.below, hs.com, hs.one, hs.old, fun e he => ?_, ?_, fun t k hk => ⟨(hs.toks t k hk).1, fun e he => ?_⟩, hs.tokne, hs.size, hs.slots, hs.defers, hs.dr⟩
    · rcases hmem e he with rfl | he
      · obtain ⟨_, g2, g3⟩ := hs.objs _ (mem_of_get hi)
        exact ⟨⟨ents, h1, h2, h3, rfl, h4, fun x hx => by obtain ⟨e, he, rfl⟩ := List.mem_map.1 hx; exact h5 e he⟩, g2, g3⟩
      · exact hs.objs e he
    · have e2 := List.pairwise_map.2 hs.apart
      exact List.pairwise_map.1 (hmap ▸ e2)
    · rcases hmem e he with rfl | he
      · exact (hs.toks t k hk).2 ⟨m, rw', .map es⟩ (mem_of_get hi)
      · exact (hs.toks t k hk).2 e he
  have hrun : (execOp a.eval ⟨some t, .range mt x, ty, pos, aft, none⟩).run P w = .ok (.value (.pointer (some ⟨w.heap.size, 0, none⟩))) (w.alloc (.mapIter (some m) clock #[] clock)) := by
    have : (Instr.range mt (.map (some m))).run P w = .ok (.pointer (some ⟨w.heap.size, 0, none⟩)) (w.alloc (.mapIter (some m) clock #[] clock)) := by
      simp [Instr.range, run_underlying (mapT_un hmt), run_getMap h1]
    simp [execOp, hs.evv hx, this]
  refine wpList_plain rfl (fun K hK => ?_)
  unfold Oper.wp
  rw [hrun]
  have hs' := hs0.newObj (.mapIter (some m) clock #[] clock) (o := .iter m clock [] clock) (heap_alloc_at _ _)
  exact hK _ _ (hr w.heap.size _ clock hbl (h4.imp (fun h => Nat.ne_of_lt h)) _ _ ⟨C, T, hs'.put ht (srel_v _)⟩)
theorem r_next (i j : Nat) {x : Operand} {r m clock : Nat} {rw' : Bool} {es : List (Value × AV)} {bs seen : List Nat} (hx : S.ev x = some (.a (.v (.pointer (some ⟨r, 0, none⟩))))) (hi : S.objs[i]? = some ⟨r, true, .iter m clock seen clock⟩) (hj : S.objs[j]? = some ⟨m, rw', .mapb es bs clock⟩) (ht : Nat.blt t S.nt = true)
    (hend : (∀ b ∈ bs, b ∈ seen) → AWL P w0 C0 ops rest Q (S.put t (.a (.tup [.v (.bool false)]))))
    (hnext : ∀ (q b : Nat) (p : Value × AV), es[q]? = some p → bs[q]? = some b → b ∉ seen → AWL P w0 C0 ops rest Q (AState.put ⟨S.nt, S.slots, S.objs.set i ⟨r, true, .iter m clock (seen ++ [b]) clock⟩⟩ t (.a (.tup [.v (.bool true), .v p.1, p.2])))) :
    AWL P w0 C0 ops (⟨some t, .next x false, ty, pos, aft, none⟩ :: rest) Q S := by
  rintro a w ⟨C, T, hs⟩
  have hri : w.heap[r]? = some (.mapIter (some m) clock seen.toArray clock) := (hs.objs _ (mem_of_get hi)).1
  obtain ⟨ents, h1, h2, h3, h4, h5, h6⟩ := (hs.objs _ (mem_of_get hj)).1
  have hold : ∀ x ∈ ents.toList, x.born < clock := fun x hx => h6 _ (by rw [← h4]; exact List.mem_map.2 ⟨x, hx, rfl⟩)
  refine wpList_plain rfl (fun K hK => ?_)
  unfold Oper.wp
  rcases run_next_at (P := P) w ty r m clock clock seen.toArray ents clock hri h1 hold (Nat.le_refl _) with ⟨g1, g2⟩ | ⟨e, he, w1, hw1, g2⟩
  · have hrun : (execOp a.eval ⟨some t, .next x false, ty, pos, aft, none⟩).run P w = .ok (.value (.tuple #[.bool false])) w := by simp [execOp, hs.evv hx, g2]
    rw [hrun]
    refine hK _ _ (hend (fun b hb => ?_) _ _ ⟨C, T, hs.put ht (rel_tup.2 (Rels.cons (.v _) Rels.nil))⟩)
    rw [← h4] at hb
    obtain ⟨e, he, rfl⟩ := List.mem_map.1 hb
    have hz : leftOf ents seen.toArray = #[] := Array.eq_empty_of_size_eq_zero g1
    unfold leftOf at hz
    have := (Array.filter_eq_empty_iff.1 hz) e (by simpa using he)
    simpa using this
  · have hel : e ∈ ents.toList ∧ e.born ∉ seen := by
      unfold leftOf at he
      simpa using he
    obtain ⟨q, hq⟩ := List.getElem?_of_mem hel.1
    have hk : es[q]?.map (·.1) = some e.key := by
      have := congrArg (fun l => l[q]?) h2
      simp only [List.getElem?_map, hq] at this
      simpa using this.symm
    obtain ⟨p, hp1, hp2⟩ : ∃ p, es[q]? = some p ∧ p.1 = e.key := by
      cases hes : es[q]? with
      | none => simp [hes] at hk
      | some p => simp [hes] at hk; exact ⟨p, rfl, hk⟩
    have hv : Rel C p.2 e.val := h3.2 q _ _ (by simp [hp1]) (by simp [hq])
    have hb : bs[q]? = some e.born := by rw [← h4]; simp [hq]
    have hs1 : SimC w0 C0 C T S a w1 := by rcases hw1 with rfl | rfl; exact hs; exact hs.drew
    have hri1 : w1.heap[r]? = some (.mapIter (some m) clock seen.toArray clock) := by rcases hw1 with rfl | rfl <;> exact hri
    have hrun : (execOp a.eval ⟨some t, .next x false, ty, pos, aft, none⟩).run P w = .ok (.value (.tuple #[.bool true, e.key, e.val])) (ChangeMaps.setBlock w1 r (.mapIter (some m) clock (seen.toArray.push e.born) clock)) := by simp [execOp, hs.evv hx, g2]
    rw [hrun]
    have hlt := (Array.getElem?_eq_some_iff.1 hri1).1
    have hs2 := hs1.setObj (ob' := .iter m clock (seen ++ [e.born]) clock) hi (w' := ChangeMaps.setBlock w1 r (.mapIter (some m) clock (seen.toArray.push e.born) clock)) (Nat.le_refl _) rfl rfl rfl (by simp [ChangeMaps.setBlock])
      (fun k hk => by simp only [ChangeMaps.setBlock]; rw [Array.getElem?_setIfInBounds, if_neg (fun e : r = k => hk e.symm)]) (by simp [ObjRel, ChangeMaps.setBlock, hlt])
    refine hK _ _ (hnext q e.born p hp1 hb hel.2 _ _ ⟨C, T, hs2.put ht (rel_tup.2 (Rels.cons (.v _) (Rels.cons ?_ (Rels.cons hv Rels.nil))))⟩)
    rw [hp2]; exact .v _
theorem r_entry (i j : Nat) {x : Operand} {r m clock q b : Nat} {rw' : Bool} {es : List (Value × AV)} {bs seen : List Nat} {p : Value × AV} (hx : S.ev x = some (.a (.v (.pointer (some ⟨r, 0, none⟩))))) (hi : S.objs[i]? = some ⟨r, true, .iter m clock (seen ++ [b]) clock⟩) (hj : S.objs[j]? = some ⟨m, rw', .mapb es bs clock⟩) (hp : es[q]? = some p) (hb : bs[q]? = some b) (ht : Nat.blt t S.nt = true)
    (hr : AWL P w0 C0 ops rest Q (S.put t (.a (.tup [.v p.1, p.2])))) : AWL P w0 C0 ops (⟨some t, .entry x, ty, pos, aft, none⟩ :: rest) Q S :=
  awl_pure ht (fun C T a w hs => by
    have hri : w.heap[r]? = some (.mapIter (some m) clock (seen ++ [b]).toArray clock) := (hs.objs _ (mem_of_get hi)).1
    obtain ⟨ents, h1, h2, h3, h4, h5, h6⟩ := (hs.objs _ (mem_of_get hj)).1
    obtain ⟨e, he1, he2⟩ : ∃ e, ents.toList[q]? = some e ∧ e.born = b := by
      rw [← h4] at hb
      cases he : ents.toList[q]? with
      | none => simp [he] at hb
      | some e => simp [he] at hb; exact ⟨e, rfl, hb⟩
    subst he2
    have hk : p.1 = e.key := by
      have := congrArg (fun l => l[q]?) h2
      simp only [List.getElem?_map, he1, hp] at this
      simpa using this.symm
    have hv : Rel C p.2 e.val := h3.2 q _ _ (by simp [hp]) (by simp [he1])
    have hrun := run_entry_at (P := P) w r m clock seen.toArray ents clock e (by simpa using hri) h1 (List.mem_of_getElem? he1) (by rw [h4]; exact h5.imp (fun h => Nat.ne_of_lt h))
    refine ⟨.tuple #[e.key, e.val], by simp [execOp, hs.evv hx, hrun], rel_tup.2 (Rels.cons ?_ (Rels.cons hv Rels.nil))⟩
    rw [hk]; exact .v _) hr
end Go.Proofs.Ytpkodkoooaldlaa.A
namespace Go.Proofs.Ytpkodkoooaldlaa.A
open Go Go.RowKit
set_option linter.unusedVariables false
set_option linter.unusedSimpArgs false
set_option linter.unusedSectionVars false
variable {P : Program} {w0 : Base} {C0 C : CS} {T : TS} {S S' : AState} {a : Act} {w : World} {ops : Array Oper} {rest : List Oper} {o : Oper} {Q : Exit → AState → Prop}
variable {t : Nat} {ty ty' : TypeId} {pos : String} {aft : Array Edge}
theorem append_facts {e sz bytes : Nat} (hsz : szT P e = some sz) (hby : bytesT P e = some bytes) (hz : (zeroT P e).map (·.length) = some sz) :
    ∃ i, P.info? e = some i ∧ i.size = sz ∧ i.bytes = bytes ∧ ∃ z, i.zero = some z ∧ z.cells.size = sz := by
  unfold szT at hsz; unfold bytesT at hby; unfold zeroT at hz
  cases hi : P.info? e with
  | none => simp [hi] at hsz
  | some i =>
    cases hiz : i.zero with
    | none => simp [hi, hiz] at hz
    | some z => simp [hi] at hsz hby; simp [hi, hiz] at hz; exact ⟨i, rfl, hsz, hby, z, hiz, hz⟩
theorem take_append_exact {α : Type} (l m : List α) (n : Nat) (h : l.length = n) : (l ++ m).take n = l := by subst h; simp
theorem r_appendBN {x y : Operand} {sy : SV} {st e sz bytes : Nat} {m : List (List AV)} (hx : S.ev x = some (.a (.v (.slice none 0 0)))) (hy : S.ev y = some sy) (hm : Content sz sy m) (hm0 : m ≠ [])
    (hst : sliceT P st = some e) (hsz : szT P e = some sz) (hby : bytesT P e = some bytes) (hz : (zeroT P e).map (·.length) = some sz)
    (hb : m.length * bytes ≤ 140737488355328) (h63 : m.length ≤ 9223372036854775807) (ht : Nat.blt t S.nt = true)
    (hr : ∀ g cap, AWL P w0 C0 ops rest Q (AState.put ⟨S.nt, S.slots, ⟨g, true, .buf sz m cap e⟩ :: S.objs⟩ t (.a (.v (.slice (some ⟨g, 0, none⟩) m.length cap))))) :
    AWL P w0 C0 ops (⟨some t, .call ⟨.builtin .append, #[x, y], #[st, st]⟩, ty, pos, aft, none⟩ :: rest) Q S := by
  rintro a w ⟨C, T, hs⟩
  obtain ⟨A, capy, by_, oy, hvy, hcapy, hA, hRy⟩ := rel_sl_inv (hm.rel (hs.ev hy))
  obtain ⟨ws, w1, w2, w3⟩ := hRy.vals
  have hone : ∀ v ∈ ws, v.oneCell' = true := fun v hv => by obtain ⟨j, hj⟩ := List.getElem?_of_mem hv; exact hs.one _ _ _ (w3 j v hj)
  obtain ⟨i, hi, hi1, hi2, z, hiz, hzl⟩ := append_facts hsz hby hz
  obtain rfl := hA hm0
  have hm1 : 0 < m.length := List.length_pos_iff.2 hm0
  have hws : ∀ (j : Nat) (v : Value), ws[j]? = some v → w.cell? ((⟨by_, oy, none⟩ : Addr).add j) = some v := fun j v hj => by rw [addr_add]; exact (hs.com _ _ _ (w3 j v hj)).cell
  have hrun := run_append_nil (P := P) w st ty e i z (sliceT_un hst) hi hiz ⟨by_, oy, none⟩ m.length capy ws (by rw [w2, hi1]) hws hm1 (by omega) (by rw [hi2]; omega)
  have hge := grownCap_ge w m.length 0 e
  have hexec : ∀ (v : Value) (w' : World), (Builtin.append_ #[st, st] ty #[a.eval x, a.eval y]).run P w = .ok v w' → (execOp a.eval ⟨some t, .call ⟨.builtin .append, #[x, y], #[st, st]⟩, ty, pos, aft, none⟩).run P w = .ok (.value v) w' := by
    intro v w' h
    simp [execOp, resolve, invoke, builtin, h]
  rw [hs.evv hx, hvy] at hexec
  refine wpList_plain rfl (fun K hK => ?_)
  unfold Oper.wp
  rw [hexec _ _ hrun]
  refine hK _ _ (hr w.heap.size (grownCap w m.length 0 e) _ _ ⟨C, T, SimC.put (hs.drew.newObj (o := .buf sz m (grownCap w m.length 0 e) e) _ ⟨_, heap_alloc_at _ _, ?_, hge, hRy.1, ws, w1, hone, ?_⟩) ht (srel_v _)⟩)
  · simp only [Array.size_append, List.size_toArray, size_zeroCells, hzl, w2, ← Nat.add_mul]; congr 1; omega
  · rw [Array.toList_append]; exact take_append_exact _ _ _ w2
theorem set_take {α : Type} {l : List α} {i : Nat} {x y : α} (h : l[i]? = some x) : (y :: l.eraseIdx i).Perm (l.set i y) := by
  induction l generalizing i with
  | nil => simp at h
  | cons z l ih =>
    cases i with
    | zero => simp
    | succ i =>
      simp only [List.eraseIdx_cons_succ, List.set_cons_succ]
      exact (List.Perm.swap _ _ _).trans ((ih (by simpa using h)).cons z)
theorem r_appendBG (i : Nat) {x y : Operand} {sy : SV} {st e sz bytes g cap : Nat} {l m : List (List AV)} {n : Nat} (hx : S.ev x = some (.a (.v (.slice (some ⟨g, 0, none⟩) n cap)))) (hn : n = l.length) (hi : S.objs[i]? = some ⟨g, true, .buf sz l cap e⟩) (hy : S.ev y = some sy) (hm : Content sz sy m) (hm0 : m ≠ [])
    (hst : sliceT P st = some e) (hsz : szT P e = some sz) (hby : bytesT P e = some bytes) (hz : (zeroT P e).map (·.length) = some sz)
    (hb : (l.length + m.length) * bytes ≤ 140737488355328) (h63 : l.length + m.length ≤ 9223372036854775807) (ht : Nat.blt t S.nt = true)
    (hr : ∀ g' cap', AWL P w0 C0 ops rest Q (AState.put ⟨S.nt, S.slots, ⟨g', true, .buf sz (l ++ m) cap' e⟩ :: S.objs.eraseIdx i⟩ t (.a (.v (.slice (some ⟨g', 0, none⟩) (l ++ m).length cap'))))) :
    AWL P w0 C0 ops (⟨some t, .call ⟨.builtin .append, #[x, y], #[st, st]⟩, ty, pos, aft, none⟩ :: rest) Q S := by
  rintro a w ⟨C, T, hs⟩
  subst hn
  obtain ⟨A, capy, by_, oy, hvy, hcapy, hA, hRy⟩ := rel_sl_inv (hm.rel (hs.ev hy))
  obtain ⟨ws, w1, w2, w3⟩ := hRy.vals
  have hone : ∀ v ∈ ws, v.oneCell' = true := fun v hv => by obtain ⟨j, hj⟩ := List.getElem?_of_mem hv; exact hs.one _ _ _ (w3 j v hj)
  obtain ⟨i0, hi0, hi1, hi2, z, hiz, hzl⟩ := append_facts hsz hby hz
  obtain rfl := hA hm0
  have hm1 : 0 < m.length := List.length_pos_iff.2 hm0
  have hws : ∀ (j : Nat) (v : Value), ws[j]? = some v → w.cell? ((⟨by_, oy, none⟩ : Addr).add j) = some v := fun j v hj => by rw [addr_add]; exact (hs.com _ _ _ (w3 j v hj)).cell
  obtain ⟨hob, hnone, hrw⟩ := hs.objs _ (mem_of_get hi)
  obtain ⟨arr, a1, a2, a3, a4, vs, a5, a6, a7⟩ := hob
  have hvl : vs.length = l.length * sz := by rw [a5.1, flat_len a4]
  have hvs : ∀ (j : Nat) (v : Value), vs[j]? = some v → w.cell? ((⟨g, 0, none⟩ : Addr).add j) = some v := fun j v hj => by
    rw [addr_add, Nat.zero_add, cell_of_row w g j arr e (0, 0) a1]
    have hlt := (List.getElem?_eq_some_iff.1 hj).1
    rw [← a7, List.getElem?_take, if_pos (by omega)] at hj
    simpa using hj
  have hexec : ∀ (v : Value) (w' : World), (Builtin.append_ #[st, st] ty #[a.eval x, a.eval y]).run P w = .ok v w' → (execOp a.eval ⟨some t, .call ⟨.builtin .append, #[x, y], #[st, st]⟩, ty, pos, aft, none⟩).run P w = .ok (.value v) w' := by
    intro v w' h
    simp [execOp, resolve, invoke, builtin, h]
  rw [hs.evv hx, hvy] at hexec
  have hz4 : ∀ cs, cs ∈ l ++ m → cs.length = sz := fun cs h => by rcases List.mem_append.1 h with h | h; exact a4 cs h; exact hRy.1 cs h
  have hfl : Rels C (l ++ m).flatten (vs ++ ws) := by rw [List.flatten_append]; exact a5.append w1
  have hone2 : ∀ v ∈ vs ++ ws, v.oneCell' = true := fun v hv => by
    rcases List.mem_append.1 hv with hv | hv
    · exact a6 v hv
    · exact hone v hv
  have hlen : (vs ++ ws).length = (l ++ m).length * sz := by rw [List.length_append, hvl, w2, List.length_append, Nat.add_mul]
  refine wpList_plain rfl (fun K hK => ?_)
  unfold Oper.wp
  by_cases hroom : l.length + m.length ≤ cap
  · have hfit : (l.length + m.length) * sz ≤ cap * sz := Nat.mul_le_mul_right _ hroom
    rw [Nat.add_mul] at hfit
    have hrun := run_append_room' (P := P) (w := w) (ty := ty) hst hsz e g l.length cap arr a1 ⟨by_, oy, none⟩ m.length capy ws w2 hws hone hroom (by rw [a2, w2]; exact hfit)
    rw [hexec _ _ hrun]
    have hnew := setRow_heap w g arr (arr.toList.take (l.length * sz) ++ ws ++ arr.toList.drop (l.length * sz + ws.length)).toArray e _ a1
    have hs1 := hs.setObj (ob' := .buf sz (l ++ m) cap e) hi (w' := w.setRow g (arr.toList.take (l.length * sz) ++ ws ++ arr.toList.drop (l.length * sz + ws.length)).toArray) (Nat.le_refl _) rfl rfl rfl (by simp) (fun k hk => setRow_other w g k _ hk)
      ⟨_, hnew, by simp only [List.size_toArray, List.length_append, List.length_drop, Array.length_toList, a7, hvl]; omega, by simpa using hroom, hz4, vs ++ ws, hfl, hone2, by
        rw [a7]
        simp only
        rw [take_append_exact _ _ _ hlen]⟩
    have hs2 := hs1.perm (set_take hi)
    rw [show l.length + m.length = (l ++ m).length from by simp]
    exact hK _ _ (hr g cap _ _ ⟨C, T, hs2.put ht (srel_v _)⟩)
  · have hrun := run_append_grow (P := P) w st ty e i0 z (sliceT_un hst) hi0 hiz ⟨g, 0, none⟩ l.length cap vs (by rw [hvl, hi1]) hvs ⟨by_, oy, none⟩ m.length capy ws (by rw [w2, hi1]) hws (by omega) (by omega) (by rw [hi2]; exact growslice_fits (by omega) hb)
    have hge := grownCap_ge w (l.length + m.length) cap e
    rw [hexec _ _ hrun]
    have hs1 := (hs.drew.newObj (o := .buf sz (l ++ m) (grownCap w (l.length + m.length) cap e) e) (.cells (vs.toArray ++ ws.toArray ++ Builtin.zeroCells z.cells (grownCap w (l.length + m.length) cap e - (l.length + m.length))) e)
      ⟨_, heap_alloc_at _ _, by simp only [Array.size_append, List.size_toArray, size_zeroCells, hzl, hvl, w2, ← Nat.add_mul]; congr 1; omega, by simpa using hge, hz4, vs ++ ws, hfl, hone2, by
        have e1 : (vs.toArray ++ ws.toArray ++ Builtin.zeroCells z.cells (grownCap w (l.length + m.length) cap e - (l.length + m.length))).toList = (vs ++ ws) ++ (Builtin.zeroCells z.cells (grownCap w (l.length + m.length) cap e - (l.length + m.length))).toList := by simp
        rw [e1]
        exact take_append_exact _ _ _ hlen⟩).sub (objs := ⟨w.heap.size, true, .buf sz (l ++ m) (grownCap w (l.length + m.length) cap e) e⟩ :: S.objs.eraseIdx i) ((List.eraseIdx_sublist _ _).cons_cons _)
    rw [show l.length + m.length = (l ++ m).length from by simp] at hs1 ⊢
    exact hK _ _ (hr w.heap.size _ _ _ ⟨C, T, hs1.put ht (srel_v _)⟩)
theorem imp_commitB (i t : Nat) {g n cap sz e : Nat} {l : List (List AV)} (ht : S.get t = some (.a (.v (.slice (some ⟨g, 0, none⟩) n cap)))) (hn : n = l.length) (hi : S.objs[i]? = some ⟨g, true, .buf sz l cap e⟩) :
    Imp w0 C0 S (AState.put ⟨S.nt, S.slots, S.objs.eraseIdx i⟩ t (.a (.sl sz l))) := by
  rintro a w ⟨C, T, hs⟩
  subst hn
  have hm := mem_of_get hi
  obtain ⟨hob, hnone', hbase⟩ := hs.objs _ hm
  obtain ⟨arr, a1, a2, a3, a4, vs, a5, a6, a7⟩ := hob
  have hnone : ∀ o, C g o = none := hnone'
  have hbase' : w0.ok g := hbase rfl
  have hvl : vs.length = l.length * sz := by rw [a5.1, flat_len a4]
  have hmono := CS.add_mono (C := C) (b := g) (o := 0) (vs := vs) (fun j _ => hnone _)
  have hsub := List.eraseIdx_sublist (l := S.objs) (k := i)
  have hp := set_take (y := (⟨g, true, .buf sz l cap e⟩ : OE)) hi
  have hp' : ((⟨g, true, .buf sz l cap e⟩ : OE) :: S.objs.eraseIdx i).Perm S.objs := by
    have : S.objs.set i ⟨g, true, .buf sz l cap e⟩ = S.objs := by
      apply List.ext_getElem?
      intro j
      rw [List.getElem?_set]
      by_cases hij : i = j
      · subst hij; rw [if_pos rfl]; split
        · exact hi.symm
        · rename_i h; rw [List.getElem?_eq_none (by omega)]
      · simp [hij]
    rw [this] at hp; exact hp
  have hne : ∀ e', e' ∈ S.objs.eraseIdx i → e'.b ≠ g := fun e' he h => by
    have := (hp'.pairwise_iff (R := fun e e' : OE => e.b ≠ e'.b) (fun h => fun e => h e.symm)).2 hs.apart
    exact (List.pairwise_cons.1 this).1 e' he h.symm
  have hstep : SimC w0 C0 (C.add g 0 vs) T ⟨S.nt, S.slots, S.objs.eraseIdx i⟩ a w := by
    refine hs.step (BelowX.refl _) (fun _ => Nat.le_refl _) (fun _ _ h => h) ?_ ?_ (fun b' o' hb' hn => CS.add_other (fun e => by subst e; rcases hbase' with h | h; omega; exact hn h)) ?_ (hs.apart.sublist hsub) ?_ hs.tokne (fun t x hx => ⟨x, hx, fun u r => SRel.mono hmono r⟩)
    · intro b' o' v hc
      rcases CS.add_cases hc with ⟨rfl, j, rfl, hj⟩ | hc'
      · refine ⟨?_, fun _ _ => ⟨arr, e, a1⟩⟩
        rw [cell_of_row w b' _ arr e (0, 0) a1, Nat.zero_add]
        have hlt := (List.getElem?_eq_some_iff.1 hj).1
        rw [← a7, List.getElem?_take, if_pos (by omega)] at hj
        simpa using hj
      · exact hs.com _ _ _ hc'
    · intro b' o' v hc
      rcases CS.add_cases hc with ⟨rfl, j, rfl, hj⟩ | hc'
      · exact a6 v (List.mem_of_getElem? hj)
      · exact hs.one _ _ _ hc'
    · intro e' he
      obtain ⟨k1, k2, k3⟩ := hs.objs e' (hsub.mem he)
      exact ⟨k1.mono hmono rfl, fun o => by rw [CS.add_other (hne e' he)]; exact k2 o, k3⟩
    · intro k j hk
      obtain ⟨k1, k2⟩ := hs.toks k j hk
      have hkb : j.b ≠ g := fun e => k2 _ hm e.symm
      exact ⟨k1.keep rfl (fun o => CS.add_other hkb), fun e he => k2 e (hsub.mem he)⟩
  have hv := hs.slots _ _ ht
  have hv' : a.tmps.getD t undef = .slice (some ⟨g, 0, none⟩) l.length cap := by generalize a.tmps.getD t undef = u at hv; cases hv; rfl
  have hx : SRel (C.add g 0 vs) T (.a (.sl sz l)) (.slice (some ⟨g, 0, none⟩) l.length cap) :=
    rel_sl_mk g 0 rfl a3 (fun _ => rfl) (row_mk a4 (a5.mono hmono) (fun j v hj => CS.add_at hj))
  refine ⟨_, T, hstep.below, hstep.com, hstep.one, hstep.old, hstep.objs, hstep.apart, hstep.toks, hstep.tokne, hstep.size, fun t' y hy => ?_, hstep.defers, hstep.dr⟩
  simp only [AState.get, AState.put, find_cons] at hy
  split at hy
  · rename_i e'; subst e'; cases hy; rw [hv']; exact hx
  · exact hstep.slots _ _ hy
end Go.Proofs.Ytpkodkoooaldlaa.A
namespace Go.Proofs.Ytpkodkoooaldlaa.A
open Go Go.RowKit
set_option linter.unusedVariables false
set_option linter.unusedSimpArgs false
set_option linter.unusedSectionVars false
variable {P : Program} {w0 : Base} {C0 C : CS} {T : TS} {S S' : AState} {a : Act} {w : World} {ops : Array Oper} {rest : List Oper} {o : Oper} {Q : Exit → AState → Prop}
variable {t : Nat} {ty ty' : TypeId} {pos : String} {aft : Array Edge}
def mixFields (P : Program) : Nat → List Field → List IntKind → Bool
  | _, [], [] => true
  | i, f :: fs, q :: qs => decide (f.name ≠ "_") && Nat.beq f.offset i && notAgg P f.type && isIntT P f.type q && mixFields P (i + 1) fs qs
  | _, _, _ => false
def mixV : List IntKind → List Int → List Value
  | q :: qs, n :: ns => .int q n :: mixV qs ns
  | _, _ => []
theorem mixV_get : ∀ (qs : List IntKind) (us : List Int) (j : Nat) (n : Int) (q : IntKind), us[j]? = some n → qs[j]? = some q → (mixV qs us)[j]? = some (.int q n)
  | [], _, j, n, q, _, h => by simp at h
  | _ :: _, [], j, n, q, h, _ => by simp at h
  | q0 :: qs, u :: us, 0, n, q, h1, h2 => by simp at h1 h2; subst h1 h2; simp [mixV]
  | q0 :: qs, u :: us, j + 1, n, q, h1, h2 => by simpa [mixV] using mixV_get qs us j n q (by simpa using h1) (by simpa using h2)
theorem eqFields_mix (d : Nat) (w : World) : ∀ (fs : List Field) (qs : List IntKind) (i : Nat) (us vs : List Int) (xs ys : Array Value), mixFields P i fs qs = true → us.length = qs.length → vs.length = qs.length →
    (∀ (j : Nat) (n : Int) (q : IntKind), us[j]? = some n → qs[j]? = some q → xs[i + j]? = some (.int q n)) → (∀ (j : Nat) (n : Int) (q : IntKind), vs[j]? = some n → qs[j]? = some q → ys[i + j]? = some (.int q n)) → (Op.eqFields (d + 1) xs ys fs).run P w = .ok (decide (us = vs)) w
  | [], [], i, us, vs, xs, ys, _, h1, h2, _, _ => by
    have e1 : us = [] := List.eq_nil_of_length_eq_zero h1
    have e2 : vs = [] := List.eq_nil_of_length_eq_zero h2
    subst e1 e2; simp [Op.eqFields]
  | [], _ :: _, _, _, _, _, _, h, _, _, _, _ => by simp [mixFields] at h
  | _ :: _, [], _, _, _, _, _, h, _, _, _, _ => by simp [mixFields] at h
  | f :: fs, q :: qs, i, [], _, _, _, _, h1, _, _, _ => by simp at h1
  | f :: fs, q :: qs, i, _ :: _, [], _, _, _, _, h2, _, _ => by simp at h2
  | f :: fs, q :: qs, i, x :: us, y :: vs, xs, ys, hf, h1, h2, hx, hy => by
    simp only [mixFields, Bool.and_eq_true, decide_eq_true_eq] at hf
    obtain ⟨⟨⟨⟨f1, f2⟩, f3⟩, f4⟩, f5⟩ := hf
    replace f3 := notAgg_eq f3
    replace f4 := isIntT_un f4
    have f2' := Nat.eq_of_beq_eq_true f2
    have ih := eqFields_mix d w fs qs (i + 1) us vs xs ys f5 (by simpa using h1) (by simpa using h2) (fun j n q hj hq => by have := hx (j + 1) n q (by simpa using hj) (by simpa using hq); rwa [show i + (j + 1) = i + 1 + j from by omega] at this) (fun j n q hj hq => by have := hy (j + 1) n q (by simpa using hj) (by simpa using hq); rwa [show i + (j + 1) = i + 1 + j from by omega] at this)
    have px := run_part1 f3 (hx 0 x q rfl rfl) w
    have py := run_part1 f3 (hy 0 y q rfl rfl) w
    simp only [Nat.add_zero] at px py
    simp only [Op.eqFields, f1, if_true, f2', Sem.run_bind, px, py, Result.andThen, ne_eq, not_false_eq_true, run_equalIn_int w d _ q q x y f4, Sem.run_ite, ih]
    by_cases hxy : x = y
    · subst hxy; simp
    · simp [hxy]
structure MixT (P : Program) (xt : TypeId) (qs : List IntKind) : Prop where
  str : P.underlying xt = some (.struct (P.fieldsOf xt))
  held : P.stoodInHeld xt = false
  flds : mixFields P 0 (P.fieldsOf xt).toList qs = true
  guard : P.eqGuardType P.depth xt = false
theorem run_seq {xt : TypeId} {qs : List IntKind} (h : MixT P xt qs) {us vs : List Int} (h1 : us.length = qs.length) (h2 : vs.length = qs.length) (w : World) :
    (Op.equalIn 10000 xt (.agg (mixV qs us).toArray) (.agg (mixV qs vs).toArray)).run P w = .ok (decide (us = vs)) w := by
  rw [show (10000 : Nat) = 9999 + 1 from rfl, run_equalIn_struct w 9999 xt _ _ h.str h.held]
  exact eqFields_mix (P := P) 9998 w (P.fieldsOf xt).toList qs 0 us vs _ _ h.flds h1 h2 (fun j n q h1 h2 => by simpa using mixV_get qs us j n q h1 h2) (fun j n q h1 h2 => by simpa using mixV_get qs vs j n q h1 h2)
theorem r_seq {x y : Operand} {sx sy : SV} {xt yt : TypeId} {qs : List IntKind} {us vs : List Int} (hx : S.ev x = some sx) (hy : S.ev y = some sy) (h : MixT P xt qs) (hxv : IsVal sx.av (.agg (mixV qs us).toArray)) (hyv : IsVal sy.av (.agg (mixV qs vs).toArray)) (h1 : us.length = qs.length) (h2 : vs.length = qs.length) (ht : Nat.blt t S.nt = true)
    (hr : AWL P w0 C0 ops rest Q (S.put t (.a (.v (.bool (decide (us = vs))))))) : AWL P w0 C0 ops (⟨some t, .binOp .eql xt x y yt, ty, pos, aft, none⟩ :: rest) Q S :=
  awl_pure ht (fun C T a w hs => ⟨.bool (decide (us = vs)), by
    have hg := run_eqGuard_agg (P := P) w .eql xt x y (mixV qs us).toArray (mixV qs vs).toArray h.guard
    simp only [execOp, (hxv C _).1 (hs.ev hx).av, (hyv C _).1 (hs.ev hy).av, Sem.run_bind, hg, Result.andThen, run_eql_struct, run_seq h h1 h2, Sem.run_pure], srel_v _⟩) hr
theorem r_sne {x y : Operand} {sx sy : SV} {xt yt : TypeId} {qs : List IntKind} {us vs : List Int} (hx : S.ev x = some sx) (hy : S.ev y = some sy) (h : MixT P xt qs) (hxv : IsVal sx.av (.agg (mixV qs us).toArray)) (hyv : IsVal sy.av (.agg (mixV qs vs).toArray)) (h1 : us.length = qs.length) (h2 : vs.length = qs.length) (ht : Nat.blt t S.nt = true)
    (hr : AWL P w0 C0 ops rest Q (S.put t (.a (.v (.bool (!decide (us = vs))))))) : AWL P w0 C0 ops (⟨some t, .binOp .neq xt x y yt, ty, pos, aft, none⟩ :: rest) Q S :=
  awl_pure ht (fun C T a w hs => ⟨.bool (!decide (us = vs)), by
    have hg := run_eqGuard_agg (P := P) w .neq xt x y (mixV qs us).toArray (mixV qs vs).toArray h.guard
    simp only [execOp, (hxv C _).1 (hs.ev hx).av, (hyv C _).1 (hs.ev hy).av, Sem.run_bind, hg, Result.andThen, run_neq_struct, run_seq h h1 h2, Sem.run_pure], srel_v _⟩) hr
theorem isVal_cells {cs : List AV} {vs : List Value} (h : cs = vs.map .v) : IsVal (.agg cs) (.agg vs.toArray) := by subst h; exact isVal_agg (areVals_v vs)
inductive Told (P : Program) : AV → (Int → Int → Bool) → Prop where
  | nil : Told P (.v .nilFunc) (fun _ _ => false)
  | fn {f : FuncId} {caps : List AV} {told : Int → Int → Bool} (hen : entersT P f) (h : ∀ a b, 0 ≤ a → 0 ≤ b → AC P f ([.v (.int .u64 a), .v (.int .u64 b)] ++ caps) [] (fun r n => n = [] ∧ r = .v (.bool (told a b)))) : Told P (.fn f caps) told
theorem SV.le.ownEq {tok sz : Nat} {l l' : List (List AV)} (h : l = l') : SV.le (.own tok sz l) (.a (.sl sz l')) := h ▸ .ownSl tok sz l
theorem SV.le.avEq {x y : AV} (h : x = y) : SV.le (.a x) (.a y) := h ▸ .refl _
theorem imp_le (t : Nat) {y x : SV} (hy : S.get t = some y) (h : SV.le y x) : Imp w0 C0 S (S.put t x) := by
  rintro a w ⟨C, T, hs⟩
  refine ⟨C, T, hs.below, hs.com, hs.one, hs.old, hs.objs, hs.apart, hs.toks, hs.tokne, hs.size, fun t' z hz => ?_, hs.defers, hs.dr⟩
  simp only [AState.get, AState.put, find_cons] at hz
  split at hz
  · rename_i e; subst e; cases hz; exact h.rel (hs.slots _ _ hy)
  · exact hs.slots _ _ hz
theorem rem_some {k : IntKind} {i j : Int} (h : j ≠ 0) : divI .rem k i j = some (i.tmod j) := if_neg h
theorem quo_some {k : IntKind} {i j : Int} (h : j ≠ 0) : divI .quo k i j = some (k.wrap (i.tdiv j)) := if_neg h
end Go.Proofs.Ytpkodkoooaldlaa.A
namespace Go.Proofs.Ytpkodkoooaldlaa.A
open Go Go.RowKit Go.Sort Go.Shelf
set_option linter.unusedVariables false
set_option linter.unusedSimpArgs false
set_option linter.unusedSectionVars false
variable {P : Program} {w0 : Base} {C0 C : CS} {T : TS} {S S' : AState} {a : Act} {w : World} {ops : Array Oper} {rest : List Oper} {o : Oper} {Q : Exit → AState → Prop}
variable {t : Nat} {ty ty' : TypeId} {pos : String} {aft : Array Edge}
def SortFuncK (P : Program) (f k : Nat) : Prop := ∀ (α : Type) [Inhabited α] (enc : α → List Value) (hk : ∀ x, (enc x).length = k) (h1 : ∀ x, ∀ v ∈ enc x, v.oneCell' = true) (cf : α → α → Int) (hO : SWO (ltOf cf)) (g : Nat) (cb : Array Value) (blk off cap : Nat) (d : Array α) (w : World)
    (eg : ∀ args w, (callFunc g args).run P w = .ok (.enter g args) w) (hcmp : CmpLays P g cb enc k cf blk off d.size w) (hH : HoldsK enc k w blk off d) (hblk : blk < w.heap.size) (hsz : d.size < 4611686018427387904) (hT : ∀ x y, (ltOf cf) x y = false → (ltOf cf) y x = false → x = y),
    Calls P f #[.slice (some ⟨blk, off, none⟩) d.size cap, .func (.func g) #[] cb] w fun e w' =>
      e = .returned (.tuple #[]) ∧ ∃ n os, w' = sortWorldK enc k w blk off n (d.toList.mergeSort fun x y => !(ltOf cf) y x).toArray os
def SortFunc0 (P : Program) (f : Nat) : Prop := ∀ (p : Option Addr) (cap : Nat) (fv : Value) (w : World), Calls P f #[.slice p 0 cap, fv] w fun e w' => e = .returned (.tuple #[]) ∧ w' = w
theorem heap_onCells {w : World} {blk k : Nat} {f : Array Value → Array Value} (h : k ≠ blk) : (mapBlock w blk f).heap[k]? = w.heap[k]? := by
  simp only [mapBlock, Array.getElem?_modify]
  rw [if_neg (fun e => h e.symm)]
theorem grow_heap {w : World} {os : Array Obj} {k : Nat} (h : k < w.heap.size) : (grow w os).heap[k]? = w.heap[k]? := by
  simp [grow, Array.getElem?_append_left h]
theorem sw_other {α : Type} [Inhabited α] {enc : α → List Value} {k : Nat} {w : World} {blk n : Nat} {d : Array α} {os : Array Obj} {b : Nat} (hb : b < w.heap.size) (hne : b ≠ blk) : (sortWorldK enc k w blk 0 n d os).heap[b]? = w.heap[b]? := by
  unfold sortWorldK putRowK putRow
  rw [grow_heap (by simp [mapBlock, ahead]; exact hb), heap_onCells hne]
  rfl
theorem sw_size {α : Type} [Inhabited α] {enc : α → List Value} {k : Nat} {w : World} {blk n : Nat} {d : Array α} {os : Array Obj} : (sortWorldK enc k w blk 0 n d os).heap.size = w.heap.size + os.size := by
  simp [sortWorldK, putRowK, putRow, mapBlock, grow, ahead]
theorem sw_row {α : Type} [Inhabited α] {enc : α → List Value} {k : Nat} {w : World} {blk n : Nat} {d : Array α} {os : Array Obj} {arr : Array Value} {e : TypeId} (hb : w.heap[blk]? = some (.cells arr e (0, 0))) (hd : d.size * k ≤ arr.size) :
    ∃ arr', (sortWorldK enc k w blk 0 n d os).heap[blk]? = some (.cells arr' e (0, 0)) ∧ arr'.size = arr.size ∧ arr'.toList.take (d.size * k) = (flatK enc k d).toList := by
  have hlt : blk < w.heap.size := (Array.getElem?_eq_some_iff.1 hb).1
  refine ⟨putCells id 0 (flatK enc k d) arr, ?_, by simp [putCells], ?_⟩
  · unfold sortWorldK putRowK putRow
    rw [grow_heap (by simp [mapBlock, ahead]; exact hlt)]
    simp only [mapBlock, Array.getElem?_modify, if_true]
    have : (Go.Sort.ahead w n).heap[blk]? = some (Obj.cells arr e (0, 0)) := hb
    rw [this]
    rfl
  · apply List.ext_getElem?
    intro j
    rw [List.getElem?_take]
    split
    · rename_i hj
      have hja : j < arr.size := by omega
      have hjf : j < (flatK enc k d).size := by simpa using hj
      simp only [putCells, Array.getElem?_toList, Array.getElem?_mapIdx, Array.getElem?_eq_getElem hja, Option.map_some, Nat.zero_le, true_and, Nat.zero_add, hjf, if_true, Nat.sub_zero, id_eq]
      rw [getElem!_pos (flatK enc k d) j hjf, Array.getElem?_eq_getElem hjf]
    · rename_i hj
      rw [List.getElem?_eq_none]; simpa using hj
theorem flatK_list {α : Type} [Inhabited α] (enc : α → List Value) (k : Nat) (hk : ∀ x, (enc x).length = k) (d : Array α) : (flatK enc k d).toList = (d.toList.map enc).flatten := by
  apply List.ext_getElem?
  intro j
  by_cases hj : j < d.size * k
  · have k0 : 0 < k := by rcases Nat.eq_zero_or_pos k with h | h; · subst h; simp at hj
                          · exact h
    have hq : j / k < d.size := Nat.div_lt_of_lt_mul (by rwa [Nat.mul_comm])
    have hr : j % k < k := Nat.mod_lt _ k0
    have hjf : j < (flatK enc k d).size := by simpa using hj
    rw [Array.getElem?_toList, Array.getElem?_eq_getElem hjf, ← getElem!_pos (flatK enc k d) j hjf, get_flatK enc k d j hj]
    have hg : ∀ (l : List (List Value)), (∀ x ∈ l, x.length = k) → ∀ q r c cs, l[q]? = some cs → cs[r]? = some c → l.flatten[q * k + r]? = some c := by
      intro l
      induction l with
      | nil => intro _ q r c cs h; simp at h
      | cons x l ih =>
        intro hl q r c cs h1 h2
        have hx := hl x (by simp)
        rw [List.flatten_cons]
        cases q with
        | zero =>
          simp at h1; subst h1
          rw [List.getElem?_append_left (by have := (List.getElem?_eq_some_iff.1 h2).1; omega)]; simpa using h2
        | succ q =>
          rw [List.getElem?_append_right (by rw [hx, Nat.add_mul]; omega)]
          have := ih (fun y hy => hl y (List.mem_cons_of_mem _ hy)) q r c cs (by simpa using h1) h2
          rw [← this]; congr 1; rw [hx, Nat.add_mul]; omega
    have h1 : (d.toList.map enc)[j / k]? = some (enc d[j / k]!) := by
      rw [List.getElem?_map, Array.getElem?_toList, Array.getElem?_eq_getElem hq, getElem!_pos d _ hq]; rfl
    have h2 : (enc d[j / k]!)[j % k]? = some (enc d[j / k]!)[j % k]! := by
      have : j % k < (enc d[j / k]!).length := by rw [hk]; exact hr
      rw [List.getElem?_eq_getElem this, List.getElem!_eq_getElem?_getD, List.getElem?_eq_getElem this]; rfl
    have := hg (d.toList.map enc) (fun x hx => by obtain ⟨y, _, rfl⟩ := List.mem_map.1 hx; exact hk y) _ _ _ _ h1 h2
    rw [show j / k * k + j % k = j from by rw [Nat.mul_comm]; exact Nat.div_add_mod j k] at this
    exact this.symm
  · have hl : (d.toList.map enc).flatten.length = d.size * k := by
      have : ∀ (l : List α), (l.map enc).flatten.length = l.length * k := by
        intro l
        induction l with
        | nil => simp
        | cons x l ih => simp only [List.map_cons, List.flatten_cons, List.length_append, hk, ih, List.length_cons, Nat.add_mul]; omega
      rw [this]; simp
    rw [List.getElem?_eq_none (by simpa using hj), List.getElem?_eq_none (by omega)]
theorem below_grow {w w' : World} (h : Below w.heap.size w w') (hd : w.drawn ≤ w'.drawn) : ∃ q os', w' = grow (w.drewN q) os' := by
  refine ⟨w'.drawn - w.drawn, w'.heap.extract w.heap.size w'.heap.size, ?_⟩
  obtain ⟨heap, tape, drawn, os, output⟩ := w
  obtain ⟨heap', tape', drawn', os', output'⟩ := w'
  obtain ⟨h1, h2, h3, h4, h5⟩ := h
  simp only at *
  subst h1 h2 h3
  simp only [grow, World.drewN]
  congr 1
  · apply Array.ext_getElem?
    intro k
    by_cases hk : k < heap.size
    · rw [Array.getElem?_append_left hk]; exact h5 k hk
    · rw [Array.getElem?_append_right (by omega), Array.getElem?_extract]
      split
      · congr 1; omega
      · rw [Array.getElem?_eq_none (by omega)]
  · omega
theorem aw_sortFunc {f k cmp : Nat} {α : Type} [Inhabited α] {encA : α → List AV} {enc : α → List Value} (cf : α → α → Int) (hs : SortFuncK P f k) (h0 : SortFunc0 P f) (hen : entersT P cmp) (hv : ∀ x, AreVals (encA x) (enc x)) (hk : ∀ x, (enc x).length = k) (h1 : ∀ x, ∀ v ∈ enc x, v.oneCell' = true)
    (hO : SWO (ltOf cf)) (hT : ∀ x y, (ltOf cf) x y = false → (ltOf cf) y x = false → x = y) (hcmp : ∀ x y, ACq P cmp [.agg (encA x), .agg (encA y)] [] (fun r n => n = [] ∧ r = .v (.int .i64 (cf x y))))
    {g cap cap' e n : Nat} {fl : Bool} {l : List α} (hn : n = l.length) (hl : l.length < 4611686018427387904) :
    AW P f [.v (.slice (some ⟨g, 0, none⟩) n cap'), .fn cmp []] [] [⟨g, fl, .buf k (l.map encA) cap e⟩] (fun r nobjs => r = .tup [] ∧ nobjs = [⟨g, true, .buf k ((l.mergeSort fun x y => !(ltOf cf) y x).map encA) cap e⟩]) := by
  intro C w vals hcom hrels hobjs
  subst hn
  obtain ⟨v0, vs0, hvv, hr0, hr1⟩ := hrels.cons_inv
  obtain ⟨v1, vs1, rfl, hr2, hr3⟩ := hr1.cons_inv
  clear hr1
  obtain rfl := hr3.nil_inv
  cases hr0
  obtain ⟨arr1, rfl⟩ : ∃ arr, v1 = .func (.func cmp) #[] arr := by cases hr2; exact ⟨_, rfl⟩
  have ha := (rel_fn.1 hr2).nil_inv
  obtain rfl : arr1 = #[] := by apply Array.ext'; simpa using ha
  obtain rfl : vals = #[.slice (some ⟨g, 0, none⟩) l.length cap', .func (.func cmp) #[] #[]] := by apply Array.ext'; simpa using hvv
  obtain ⟨⟨arr, a1, a2, a3, a4, vs, a5, a6, a7⟩, hnone⟩ := hobjs.1 ⟨g, fl, .buf k (l.map encA) cap e⟩ (by simp)
  have hlt : g < w.heap.size := (Array.getElem?_eq_some_iff.1 a1).1
  have hvals : ∀ (m : List α) (us : List Value), Rels C (m.map encA).flatten us ↔ us = (m.map enc).flatten := by
    have hav : ∀ m : List α, AreVals (m.map encA).flatten (m.map enc).flatten := by
      intro m
      induction m with
      | nil => exact .nil
      | cons x m ih =>
        simp only [List.map_cons, List.flatten_cons]
        have : ∀ {xs : List AV} {vs : List Value} {ys : List AV} {us : List Value}, AreVals xs vs → AreVals ys us → AreVals (xs ++ ys) (vs ++ us) := by
          intro xs vs ys us h1 h2
          induction h1 with
          | nil => exact h2
          | cons h _ ih => exact .cons h ih
        exact this (hv x) ih
    exact fun m us => (hav m).rels C us
  have hvs : vs = (l.map enc).flatten := (hvals l vs).1 a5
  have hflat : (flatK enc k l.toArray).toList = (l.map enc).flatten := by simpa using flatK_list enc k hk l.toArray
  have hfl : (l.map enc).flatten.length = l.length * k := by rw [← hflat]; simp
  have hpost : ∀ (e' : Ending) (w' : World), (e' = .returned (.tuple #[]) ∧ ∃ n os, w' = sortWorldK enc k w g 0 n (l.mergeSort fun x y => !(ltOf cf) y x).toArray os) →
      ∃ v C' r nobjs, e' = .returned v ∧ (r = .tup [] ∧ nobjs = [(⟨g, true, .buf k ((l.mergeSort fun x y => !(ltOf cf) y x).map encA) cap e⟩ : OE)]) ∧ BelowX w.heap.size (WB [⟨g, fl, .buf k (l.map encA) cap e⟩]) w w' ∧ (∀ b o, b < w.heap.size → ¬ WB [⟨g, fl, .buf k (l.map encA) cap e⟩] b → C' b o = C b o) ∧ Com C' w' ∧ Rel C' r v ∧ Objs C' nobjs w' ∧ ∀ e' ∈ nobjs, w.heap.size ≤ e'.b ∨ WB [⟨g, fl, .buf k (l.map encA) cap e⟩] e'.b := by
    rintro e' w' ⟨rfl, n, os, rfl⟩
    have hml : (l.mergeSort fun x y => !(ltOf cf) y x).length = l.length := List.length_mergeSort _
    obtain ⟨arr', b1, b2, b3⟩ := sw_row (enc := enc) (k := k) (n := n) (os := os) (d := (l.mergeSort fun x y => !(ltOf cf) y x).toArray) a1 (by
      simp only [List.size_toArray, hml, a2]; exact Nat.mul_le_mul_right _ (by simpa using a3))
    have hwg : WB [⟨g, fl, .buf k (l.map encA) cap e⟩] g := ⟨_, List.mem_singleton.2 rfl, rfl⟩
    have hne : ∀ b o v, C b o = some v → b ≠ g ∧ b < w.heap.size := fun b o v hc => ⟨fun e => (by subst e; have := hnone o; rw [hc] at this; cases this), by have := World.block_lt_of_cell? w _ (hcom.1 _ _ _ hc).cell; simpa using this⟩
    refine ⟨.tuple #[], C, _, _, rfl, ⟨rfl, rfl⟩, ⟨rfl, rfl, rfl, by rw [sw_size]; omega, fun b hb hn => sw_other hb (fun e => by subst e; exact hn hwg)⟩, fun _ _ _ _ => rfl, ⟨fun b o v hc => ?_, hcom.2⟩, rel_tup.2 Rels.nil, ⟨fun e' he => ?_, by simp⟩, fun e' he => ?_⟩
    · obtain ⟨h1, h2⟩ := hne b o v hc
      exact (hcom.1 _ _ _ hc).keep (sw_other h2 h1)
    · obtain rfl := List.mem_singleton.1 he
      refine ⟨⟨arr', b1, by rw [b2]; exact a2, by simpa [hml] using a3, fun cs hcs => ?_, _, (hvals _ _).2 rfl, fun v hv => ?_, ?_⟩, hnone⟩
      · obtain ⟨x, _, rfl⟩ := List.mem_map.1 hcs
        have := ((hv x).rels C (enc x)).2 rfl
        rw [← this.1]; exact hk x
      · obtain ⟨u, hu, hvu⟩ := List.mem_flatten.1 hv
        obtain ⟨x, _, rfl⟩ := List.mem_map.1 hu
        exact h1 x v hvu
      · simp only [List.size_toArray] at b3
        rw [List.length_map, b3]
        simpa using flatK_list enc k hk (l.mergeSort fun x y => !(ltOf cf) y x).toArray
    · obtain rfl := List.mem_singleton.1 he
      exact .inr hwg
  have hH : HoldsK enc k w g 0 l.toArray := by
    intro j hj
    have hj' : j < l.length * k := by simpa using hj
    have hjf : j < (flatK enc k l.toArray).toList.length := by rw [hflat, hfl]; exact hj'
    have hget : arr[j]? = some (flatK enc k l.toArray)[j]! := by
      have e1 : (arr.toList.take ((l.map encA).length * k))[j]? = arr.toList[j]? := by rw [List.getElem?_take, if_pos (by simpa using hj')]
      rw [a7, hvs, ← hflat] at e1
      rw [← Array.getElem?_toList, ← e1, Array.getElem?_toList, getElem!_pos (flatK enc k l.toArray) j hj, Array.getElem?_eq_getElem hj]
    refine ⟨?_, ?_⟩
    · rw [Nat.zero_add, cell_of_row w g j arr e (0, 0) a1]; exact hget
    · simp [World.frozen?, a1]
  refine (hs α enc hk h1 cf hO cmp #[] g 0 cap' l.toArray w hen ?_ hH hlt (by simpa using hl) hT).mono (fun e' w' h => hpost e' w' (by simpa using h))
  intro m os dk _ x y
  refine ((hcmp x y) (fun _ _ => none) _ #[.agg (enc x).toArray, .agg (enc y).toArray] ⟨fun _ _ _ h => (by cases h), fun _ _ _ h => (by cases h)⟩ ?_ ⟨by simp, by simp⟩).mono ?_
  · have hx : ∀ z, Rel (fun _ _ => none) (.agg (encA z)) (.agg (enc z).toArray) := fun z => (isVal_agg (hv z) _ _).2 rfl
    simpa using Rels.cons (hx x) (Rels.cons (hx y) Rels.nil)
  · rintro e' w' ⟨v, C', r, nobjs, rfl, ⟨rfl, rfl⟩, hb, _, _, hrel, _, _, hd⟩
    cases hrel
    exact ⟨rfl, below_grow hb hd⟩
end Go.Proofs.Ytpkodkoooaldlaa.A
namespace Go.Proofs.Ytpkodkoooaldlaa.A
open Go Go.RowKit
set_option linter.unusedVariables false
set_option linter.unusedSimpArgs false
set_option linter.unusedSectionVars false
variable {P : Program} {w0 : Base} {C0 C : CS} {T : TS} {S S' : AState} {a : Act} {w : World} {ops : Array Oper} {rest : List Oper} {o : Oper} {Q : Exit → AState → Prop}
variable {t : Nat} {ty ty' : TypeId} {pos : String} {aft : Array Edge}
theorem eqItems_ints {q : IntKind} {e : TypeId} (he : P.underlying e = some (.int q)) (ha : aggT P e = some false) (d : Nat) (w : World) (us bs : List Int) :
    ∀ is : List Nat, (∀ i ∈ is, i < us.length ∧ i < bs.length) → (Op.eqItems (d + 1) e 1 (us.map (Value.int q)).toArray (bs.map (Value.int q)).toArray is).run P w = .ok (is.all fun i => us[i]? == bs[i]?) w
  | [], _ => by simp [Op.eqItems]
  | i :: is, h => by
    have ⟨h1, h2⟩ := h i (by simp)
    have ih := eqItems_ints he ha d w us bs is (fun j hj => h j (by simp [hj]))
    have px := run_part1 (P := P) ha (xs := (us.map (Value.int q)).toArray) (off := i * 1) (v := .int q us[i]) (by simp [h1]) w
    have py := run_part1 (P := P) ha (xs := (bs.map (Value.int q)).toArray) (off := i * 1) (v := .int q bs[i]) (by simp [h2]) w
    simp only [Op.eqItems, Sem.run_bind, px, py, Result.andThen_ok, run_equalIn_int w d _ q q _ _ he, List.all_cons, List.getElem?_eq_getElem h1, List.getElem?_eq_getElem h2]
    by_cases hxy : us[i] = bs[i]
    · simp [hxy, ih]
    · simp [hxy]
theorem range_all_eq : ∀ (us bs : List Int) (n : Nat), us.length = n → bs.length = n → ((List.range n).all fun i => us[i]? == bs[i]?) = decide (bs = us) := by
  intro us bs n h1 h2
  by_cases h : bs = us
  · subst h; simp
  · simp only [h, decide_false]
    rw [Bool.eq_false_iff]
    intro hall
    apply h
    apply List.ext_getElem?
    intro i
    by_cases hi : i < n
    · have := List.all_eq_true.1 hall i (by simpa using hi); simp at this; exact this.symm
    · rw [List.getElem?_eq_none (by omega), List.getElem?_eq_none (by omega)]
theorem checkKey_int {q : IntKind} {e : TypeId} (he : P.underlying e = some (.int q)) (em : Bool) (d : Nat) (x : Int) (w : World) : (Instr.checkKey em (d + 1) e (.int q x)).run P w = .ok () w := by simp [Instr.checkKey, run_underlying he]
theorem keyEnc_arr {K : Type} [DecidableEq K] {kt e : TypeId} {q : IntKind} {n : Nat} (cells : K → List Int) (hinj : ∀ a b, cells a = cells b → a = b) (hS : P.underlying kt = some (.array n e)) (he : isIntT P e q = true) (ha : aggT P e = some false) (hc : P.cellsOf e = 1) (hi : (P.info? e).isSome = true) (hsz : szT P e = some 1)
    (hl : ∀ k, (cells k).length = n) : KeyEnc P kt (fun k => ekL q (cells k)) := by
  have he' := isIntT_un he
  refine keyEnc_of_eq hS (fun k => ⟨_, rfl⟩) (fun a b w => ?_) (fun em k w => ?_) (fun k => sameBits_ekL q _)
  · obtain ⟨i, hi⟩ := Option.isSome_iff_exists.1 hi
    simp only [Op.equal, Op.maxDepth, ekL]
    rw [show (10000 : Nat) = 9999 + 1 from rfl, run_equalIn_array w 9999 _ _ hS hi, hc, show (9999 : Nat) = 9998 + 1 from rfl, eqItems_ints he' ha 9998 w (cells a) (cells b) _ (fun i hi => by rw [hl, hl]; exact ⟨List.mem_range.1 hi, List.mem_range.1 hi⟩), range_all_eq _ _ n (hl a) (hl b)]
    by_cases h : b = a
    · subst h; simp
    · have : cells b ≠ cells a := fun e => h (hinj _ _ e)
      simp [h, this]
  · simp only [ekL]
    rw [show (10000 : Nat) = 9999 + 1 from rfl]
    unfold Instr.checkKey
    simp only [Sem.run_bind, run_underlying hS, Result.andThen_ok]
    simp only [Std.Legacy.Range.forIn_eq_forIn_range', Std.Legacy.Range.size, Nat.sub_zero, Nat.add_one_sub_one, Nat.div_one]
    have : ∀ is : List Nat, (∀ i ∈ is, i < n) → ∀ g : Nat → PUnit → Sem (ForInStep PUnit), (∀ i < n, (g i PUnit.unit).run P w = .ok (.yield PUnit.unit) w) → (forIn (m := Sem) is PUnit.unit g).run P w = .ok PUnit.unit w := by
      intro is
      induction is with
      | nil => intro _ g _; simp
      | cons i is ih =>
        intro hi g hg
        rw [List.forIn_cons]
        simp only [Sem.run_bind, hg i (hi i (by simp)), Result.andThen_ok]
        exact ih (fun j hj => hi j (by simp [hj])) g hg
    rw [this]
    · rfl
    · intro i hi; rw [List.mem_range'_1] at hi; omega
    · intro i hi
      have px := run_part1 (P := P) ha (xs := ((cells k).map (Value.int q)).toArray) (off := i * 1) (v := .int q ((cells k)[i]'(by rw [hl]; exact hi))) (by simp [hl, hi]) w
      have hck := checkKey_int (P := P) he' em 9998 ((cells k)[i]'(by rw [hl]; exact hi)) w
      simp only [Sem.run_bind, run_sz hsz, Result.andThen_ok, px, hck, Sem.run_pure]
theorem arrT_un {t e : TypeId} {n : Nat} (h : P.underlying t = some (.array n e)) : P.underlying t = some (.array (P.arrayLen t) (P.elem t)) ∧ P.elem t = e ∧ P.arrayLen t = n := by
  have h1 : P.elem t = e := by simp [Program.elem, h]
  have h2 : P.arrayLen t = n := by simp [Program.arrayLen, h]
  rw [h1, h2]; exact ⟨h, rfl, rfl⟩
theorem r_indexArrB {st e n sz b off : Nat} {x y : Operand} {k : IntKind} {i : Int} (hx : S.ev x = some (.a (.v (.pointer (some ⟨b, off, none⟩))))) (hy : S.ev y = some (.a (.v (.int k i)))) (hu : P.underlying st = some (.array n e)) (hsz : szT P e = some sz) (h0 : 0 ≤ i) (h1 : i < n) (ht : Nat.blt t S.nt = true)
    (hr : AWL P w0 C0 ops rest Q (S.put t (.a (.v (.pointer (some ⟨b, off + i.toNat * sz, none⟩)))))) : AWL P w0 C0 ops (⟨some t, .indexAddr st x y, ty, pos, aft, none⟩ :: rest) Q S :=
  awl_pure ht (fun C T a w hs => ⟨_, by simp [execOp, hs.evv hx, hs.evv hy, Instr.indexAt, asIntOf, Sem.run_bind, run_underlying hu, Instr.sureAddr, h0, h1, run_sz hsz, addr_add], srel_v _⟩) hr
theorem r_sliceArr {st e n : Nat} {x : Operand} {cs : List AV} (hx : S.ev x = some (.a (.cp cs))) (hu : P.underlying st = some (.array n e)) (hsz : szT P e = some 1) (hn : cs.length = n) (ht : Nat.blt t S.nt = true)
    (hr : AWL P w0 C0 ops rest Q (S.put t (.a (.sl 1 (cs.map fun c => [c]))))) : AWL P w0 C0 ops (⟨some t, .slice st x none none none, ty, pos, aft, none⟩ :: rest) Q S :=
  awl_pure ht (fun C T a w hs => by
    have h := hs.ev hx
    generalize hv : a.eval x = u at h
    obtain ⟨b, off, rfl, hc⟩ := rel_cp_inv h
    obtain ⟨g1, g2, g3⟩ := arrT_un hu
    have hrun := run_sliceAt_array_all w st ⟨b, off, none⟩ g1
    rw [g2, g3, run_sz hsz] at hrun
    refine ⟨.slice (some ⟨b, off, none⟩) n n, by
      simp only [execOp, hv, hrun, slicedAt, Result.andThen]
      by_cases h : n = 0
      · simp [h, hrun, slicedAt, Result.andThen]
      · simp [h, hrun, slicedAt, Result.andThen, Addr.add], ?_⟩
    refine rel_sl_mk b off (by simp [hn]) (Nat.le_refl _) (fun _ => rfl) ⟨fun c hc => ?_, fun i c j x h1 h2 => ?_⟩
    · obtain ⟨y, _, rfl⟩ := List.mem_map.1 hc; rfl
    · rw [List.getElem?_map] at h1
      cases hi : cs[i]? with
      | none => simp [hi] at h1
      | some y =>
        simp [hi] at h1
        subst h1
        cases j with
        | succ j => simp at h2
        | zero =>
          simp at h2; subst h2
          simpa using hc i y hi) hr
theorem ac_clone {f : FuncId} {es : List (Value × AV)} {b : Nat} {fl : Bool} (h : ∀ (ents : Array MapEntry) (clock : Nat) (w : World), w.heap[b]? = some (.map ents clock) → Calls P f #[.map (some b)] w fun e w' => e = .returned (.map (some w.heap.size)) ∧ w' = w.alloc (.map ents clock)) :
    AC P f [.v (.map (some b))] [⟨b, fl, .map es⟩] (fun r n => ∃ b', r = .v (.map (some b')) ∧ n = [⟨b', true, .map es⟩]) := by
  intro C w vals hcom hrels hobjs
  obtain ⟨v0, vs0, hvv, hr0, hr1⟩ := hrels.cons_inv
  obtain rfl := hr1.nil_inv
  cases hr0
  obtain rfl : vals = #[.map (some b)] := by apply Array.ext'; simpa using hvv
  obtain ⟨⟨ents, clock, h1, h2, h3, h4, h5⟩, hnone⟩ := hobjs.1 ⟨b, fl, .map es⟩ (List.mem_singleton.2 rfl)
  refine (h ents clock w h1).mono ?_
  rintro e w' ⟨rfl, rfl⟩
  have hlt : ∀ b o v, C b o = some v → b < w.heap.size := fun b o v hc => by have := World.block_lt_of_cell? w _ (hcom.1 _ _ _ hc).cell; simpa using this
  refine ⟨_, C, _, _, rfl, ⟨w.heap.size, rfl, rfl⟩, (Below.refl _ w).alloc (Nat.le_refl _) _, fun _ _ _ => rfl, ⟨com_keep hcom.1 (fun b o v hc => Below.heap_alloc _ _ _ (hlt b o v hc)), hcom.2⟩, .v _, ⟨fun e he => ?_, by simp⟩, by simp⟩
  obtain rfl := List.mem_singleton.1 he
  refine ⟨⟨ents, clock, (MapKept.heap_alloc w _).1, h2, h3, h4, h5⟩, fun o => ?_⟩
  cases hc : C w.heap.size o with
  | none => rfl
  | some v => exact absurd (hlt _ _ _ hc) (Nat.lt_irrefl _)
end Go.Proofs.Ytpkodkoooaldlaa.A
namespace Go.Proofs.Ytpkodkoooaldlaa.A
open Go Go.RowKit
set_option linter.unusedVariables false
set_option linter.unusedSimpArgs false
set_option linter.unusedSectionVars false
variable {P : Program} {w0 : Base} {C0 C : CS} {T : TS} {S S' : AState} {a : Act} {w : World} {ops : Array Oper} {rest : List Oper} {o : Oper} {Q : Exit → AState → Prop}
variable {t : Nat} {ty ty' : TypeId} {pos : String} {aft : Array Edge}
theorem r_lenV {x : Operand} {A : Option Addr} {n cap : Nat} {st e : TypeId} (hx : S.ev x = some (.a (.v (.slice A n cap)))) (hst : sliceT P st = some e) (ht : Nat.blt t S.nt = true)
    (hr : AWL P w0 C0 ops rest Q (S.put t (.a (.v (.int .i64 n))))) : AWL P w0 C0 ops (⟨some t, .call ⟨.builtin .len, #[x], #[st]⟩, ty, pos, aft, none⟩ :: rest) Q S :=
  awl_pure ht (fun C T a w hs => ⟨.int .i64 n, by simp [execOp, resolve, invoke, builtin, Builtin.len_, Builtin.lenOf, hs.evv hx, run_underlying (sliceT_un hst), Sem.run_bind, Result.andThen, goInt], srel_v _⟩) hr
theorem r_indexV {st e : TypeId} {sz g off n cap : Nat} {x y : Operand} {k : IntKind} {i : Int} (hx : S.ev x = some (.a (.v (.slice (some ⟨g, off, none⟩) n cap)))) (hy : S.ev y = some (.a (.v (.int k i)))) (hst : sliceT P st = some e) (hsz : szT P e = some sz) (h0 : 0 ≤ i) (h1 : i < n) (ht : Nat.blt t S.nt = true)
    (hr : AWL P w0 C0 ops rest Q (S.put t (.a (.v (.pointer (some ⟨g, off + i.toNat * sz, none⟩)))))) : AWL P w0 C0 ops (⟨some t, .indexAddr st x y, ty, pos, aft, none⟩ :: rest) Q S :=
  awl_pure ht (fun C T a w hs => ⟨_, by simp [execOp, hs.evv hx, hs.evv hy, run_indexAt_slice hst hsz h0 h1], srel_v _⟩) hr
theorem sliceT_el {st e : TypeId} (hst : sliceT P st = some e) : P.underlying st = some (.slice (P.elem st)) ∧ P.elem st = e := by
  have h := sliceT_un hst
  have : P.elem st = e := by simp [Program.elem, h]
  exact ⟨by rw [this]; exact h, this⟩
theorem r_sliceVL {st e : TypeId} {sz g off n cap : Nat} {x y : Operand} {k : IntKind} {lo : Int} (hx : S.ev x = some (.a (.v (.slice (some ⟨g, off, none⟩) n cap)))) (hy : S.ev y = some (.a (.v (.int k lo)))) (hst : sliceT P st = some e) (hsz : szT P e = some sz) (h0 : 0 ≤ lo) (h1 : lo ≤ n) (hc : n ≤ cap) (ht : Nat.blt t S.nt = true)
    (hr : ∀ A : Addr, (lo.toNat < n → A = ⟨g, off + lo.toNat * sz, none⟩) → AWL P w0 C0 ops rest Q (S.put t (.a (.v (.slice (some A) (n - lo.toNat) (cap - lo.toNat)))))) : AWL P w0 C0 ops (⟨some t, .slice st x (some y) none none, ty, pos, aft, none⟩ :: rest) Q S :=
  have hr' := hr (if cap = lo.toNat then ⟨g, off, none⟩ else ⟨g, off + lo.toNat * sz, none⟩) (fun h => if_neg (by omega))
  awl_pure ht (fun C T a w hs => by
    obtain ⟨hu', he⟩ := sliceT_el hst
    have hrun := (run_sliceAt_slice w st (.slice (some ⟨g, off, none⟩) n cap) _ _ _ hu').trans (run_slice_l w st (some ⟨g, off, none⟩) n cap hu' k lo h0 h1)
    rw [he, run_sz hsz] at hrun
    simp only [Result.andThen] at hrun
    refine ⟨sliced (some ⟨g, off, none⟩) lo.toNat n cap sz, by simp [execOp, hs.evv hx, hs.evv hy, hrun], ?_⟩
    have hv : sliced (some ⟨g, off, none⟩) lo.toNat n cap sz = .slice (some (if cap = lo.toNat then ⟨g, off, none⟩ else ⟨g, off + lo.toNat * sz, none⟩)) (n - lo.toNat) (cap - lo.toNat) := by
      unfold sliced
      split <;> simp [*, addr_add]
    rw [hv]; exact srel_v _) hr'
theorem r_sliceVH {st e : TypeId} {sz g off n cap : Nat} {x y : Operand} {k : IntKind} {hi : Int} (hx : S.ev x = some (.a (.v (.slice (some ⟨g, off, none⟩) n cap)))) (hy : S.ev y = some (.a (.v (.int k hi)))) (hst : sliceT P st = some e) (hsz : szT P e = some sz) (h0 : 0 ≤ hi) (h1 : hi ≤ cap) (ht : Nat.blt t S.nt = true)
    (hr : AWL P w0 C0 ops rest Q (S.put t (.a (.v (.slice (some ⟨g, off, none⟩) hi.toNat cap))))) : AWL P w0 C0 ops (⟨some t, .slice st x none (some y) none, ty, pos, aft, none⟩ :: rest) Q S :=
  awl_pure ht (fun C T a w hs => by
    obtain ⟨hu', he⟩ := sliceT_el hst
    have hrun := (run_sliceAt_slice w st (.slice (some ⟨g, off, none⟩) n cap) _ _ _ hu').trans (run_slice_h w st (some ⟨g, off, none⟩) n cap hu' k hi h0 h1)
    rw [he, run_sz hsz] at hrun
    simp only [Result.andThen] at hrun
    refine ⟨sliced (some ⟨g, off, none⟩) 0 hi.toNat cap sz, by simp [execOp, hs.evv hx, hs.evv hy, hrun], ?_⟩
    have hv : sliced (some ⟨g, off, none⟩) 0 hi.toNat cap sz = .slice (some ⟨g, off, none⟩) hi.toNat cap := by
      unfold sliced
      split <;> simp [*, addr_add]
    rw [hv]; exact srel_v _) hr
theorem box_get {C : CS} {cs : List AV} {arr : Array Value} (h : Rels C cs arr.toList) : arr.size = cs.length := by have := h.1; simpa using this
theorem rels_vals {C : CS} (vs : List Value) : Rels C (vs.map AV.v) vs := ⟨by simp, fun j c u h1 h2 => by rw [List.getElem?_map, h2] at h1; simp at h1; subst h1; exact .v _⟩
theorem r_sliceVLd {st e : TypeId} {sz g off n cap : Nat} {x y : Operand} {k : IntKind} {lo : Int} (hx : S.ev x = some (.a (.v (.slice (some ⟨g, off, none⟩) n cap)))) (hy : S.ev y = some (.a (.v (.int k lo)))) (hst : sliceT P st = some e) (hsz : szT P e = some sz) (h0 : 0 ≤ lo) (h1 : lo ≤ n) (hc : n ≤ cap) (ht : Nat.blt t S.nt = true)
    (hr : AWL P w0 C0 ops rest Q (S.put t (.a (.v (.slice (some (if cap = lo.toNat then ⟨g, off, none⟩ else ⟨g, off + lo.toNat * sz, none⟩)) (n - lo.toNat) (cap - lo.toNat)))))) : AWL P w0 C0 ops (⟨some t, .slice st x (some y) none none, ty, pos, aft, none⟩ :: rest) Q S :=
  awl_pure ht (fun C T a w hs => by
    obtain ⟨hu', he⟩ := sliceT_el hst
    have hrun := (run_sliceAt_slice w st (.slice (some ⟨g, off, none⟩) n cap) _ _ _ hu').trans (run_slice_l w st (some ⟨g, off, none⟩) n cap hu' k lo h0 h1)
    rw [he, run_sz hsz] at hrun
    simp only [Result.andThen] at hrun
    refine ⟨sliced (some ⟨g, off, none⟩) lo.toNat n cap sz, by simp [execOp, hs.evv hx, hs.evv hy, hrun], ?_⟩
    have hv : sliced (some ⟨g, off, none⟩) lo.toNat n cap sz = .slice (some (if cap = lo.toNat then ⟨g, off, none⟩ else ⟨g, off + lo.toNat * sz, none⟩)) (n - lo.toNat) (cap - lo.toNat) := by
      unfold sliced
      split <;> simp [*, addr_add]
    rw [hv]; exact srel_v _) hr
section
variable {K α : Type} [DecidableEq K] {ek : K → Value} {ev : α → AV} {kt et : TypeId}
end
end Go.Proofs.Ytpkodkoooaldlaa.A
namespace Go.Proofs.Ytpkodkoooaldlaa.A
open Go Go.RowKit
set_option linter.unusedVariables false
set_option linter.unusedSimpArgs false
set_option linter.unusedSectionVars false
variable {P : Program} {w0 : Base} {C0 C : CS} {T : TS} {S S' : AState} {a : Act} {w : World} {ops : Array Oper} {rest : List Oper} {o : Oper} {Q : Exit → AState → Prop}
variable {t : Nat} {ty : TypeId} {pos : String} {aft : Array Edge}
theorem made_one (z : Value) (n : Nat) : (madeCells #[z] n).toList = List.replicate n z := by
  unfold madeCells
  rw [Array.toList_map, Array.toList_range]
  apply List.ext_getElem?
  intro i
  rw [List.getElem?_map]
  by_cases h : i < n
  · rw [List.getElem?_range h]
    simp [h, Nat.mod_one]
  · rw [List.getElem?_eq_none (by simpa using h), List.getElem?_eq_none (by simpa using h)]; rfl
theorem r_makeSlice {st e bytes : Nat} {zv : Value} {x y : Operand} {k k' : IntKind} {n : Nat} (hx : S.ev x = some (.a (.v (.int k (n : Int))))) (hy : S.ev y = some (.a (.v (.int k' (n : Int))))) (hst : sliceT P st = some e) (hsz : szT P e = some 1) (hby : bytesT P e = some bytes) (hz : zeroT P e = some [zv])
    (hb : bytes * n ≤ 281474976710656) (hn : n ≤ 1000000000) (ht : Nat.blt t S.nt = true)
    (hr : ∀ b, AWL P w0 C0 ops rest Q (AState.put ⟨S.nt, S.slots, ⟨b, true, .box (List.replicate n (.v zv))⟩ :: S.objs⟩ t (.a (.v (.slice (some ⟨b, 0, none⟩) n n))))) :
    AWL P w0 C0 ops (⟨some t, .makeSlice st x y, ty, pos, aft, none⟩ :: rest) Q S := by
  rintro a w ⟨C, T, hs⟩
  unfold szT at hsz
  unfold bytesT at hby
  unfold zeroT at hz
  cases hi : P.info? e with
  | none => rw [hi] at hsz; cases hsz
  | some i =>
    rw [hi] at hsz hby hz
    simp only [Option.map_some, Option.some.injEq, Option.bind_some] at hsz hby hz
    cases hiz : i.zero with
    | none => rw [hiz] at hz; cases hz
    | some z =>
      rw [hiz] at hz
      simp only [Option.map_some, Option.some.injEq] at hz
      have hzc : z.cells = #[zv] := by apply Array.ext'; simpa using hz
      have hbi : (i.bytes : Int) * (n : Int) ≤ 281474976710656 := by
        rw [hby]
        have : ((bytes * n : Nat) : Int) ≤ 281474976710656 := by omega
        rwa [Int.natCast_mul] at this
      have hrun := run_make (P := P) w st e i z (sliceT_un hst) hi hiz k k' (n : Int) (n : Int) (by omega) (Int.le_refl _) hbi (by omega)
      rw [hzc, hsz, Nat.mul_one] at hrun
      simp only [Int.toNat_natCast] at hrun
      refine wpList_plain rfl (fun K hK => ?_)
      unfold Oper.wp
      have hex : (execOp a.eval ⟨some t, .makeSlice st x y, ty, pos, aft, none⟩).run P w = .ok (.value (.slice (some ⟨w.heap.size, 0, none⟩) n n)) (w.alloc (.cells (madeCells #[zv] n) e)) := by
        simp [execOp, Sem.run_bind, hs.evv hx, hs.evv hy, hrun]
      rw [hex]
      have hs' := hs.newObj (.cells (madeCells #[zv] n) e) (o := .box (List.replicate n (.v zv))) ⟨_, e, heap_alloc_at _ _, by
        rw [made_one]
        have := rels_vs (C := C) (List.replicate n zv)
        rwa [List.map_replicate] at this⟩
      exact hK _ _ (hr w.heap.size _ _ ⟨C, T, hs'.put ht (srel_v _)⟩)
end Go.Proofs.Ytpkodkoooaldlaa.A
namespace Go.Proofs.Ytpkodkoooaldlaa.A
open Go Go.RowKit
set_option linter.unusedVariables false
set_option linter.unusedSimpArgs false
set_option linter.unusedSectionVars false
variable {P : Program}
noncomputable def C0 (W : World) : CS := by
  classical
  exact fun b o => match W.cell? ⟨b, o, none⟩ with | some v => if v.oneCell' = true ∧ (PTC = true → isSl v = true → Plain W b) then some v else none | none => none
theorem C0_some {W : World} {b o : Nat} {v : Value} (h : W.cell? ⟨b, o, none⟩ = some v) (h1 : v.oneCell' = true) (h2 : PTC = true → isSl v = false) : C0 W b o = some v := by
  have : PTC = true → isSl v = true → Plain W b := fun g1 g2 => by rw [h2 g1] at g2; cases g2
  unfold C0; simp only [h]
  rw [if_pos ⟨h1, this⟩]
theorem com_C0 (W : World) : Com (C0 W) W := by
  refine ⟨fun b o v h => ?_, fun b o v h => ?_⟩ <;> unfold C0 at h <;> split at h
  · rename_i u hu; split at h; rename_i h1; cases h; exact ⟨hu, h1.2⟩; cases h
  · cases h
  · rename_i u hu; split at h; rename_i h1; cases h; exact h1.1; cases h
  · cases h
def noSl : AV → Bool | .sl _ _ => false | .v x => !isSl x | _ => true
theorem noSl_rel {C : CS} {c : AV} {u : Value} (r : Rel C c u) (h : noSl c = true) : isSl u = false := by
  cases r <;> simp_all [noSl, isSl]
def RD (P : Program) (t : TypeId) {α : Type} (E : α → List AV) (G : α → Prop) : Prop :=
  ∀ {H : Type} (enc : TypeId × Value → H) (W : World) (fuel : Nat) (cs : List Value) (x : DataW H × List MemPlace), DataW.trod enc P W 0 (fun _ => true) true fuel t cs = some x →
    ∃ a, G a ∧ Rels (C0 W) (E a) cs ∧ (E a).all AV.one = true
theorem RD.map {t : TypeId} {α β : Type} {E : α → List AV} {G : α → Prop} {E' : β → List AV} {G' : β → Prop} (h : RD P t E G) (f : α → β) (hf : ∀ a, G a → G' (f a) ∧ E' (f a) = E a) : RD P t E' G' := by
  intro H enc W fuel cs x hx
  obtain ⟨a, h1, h2, h3⟩ := h enc W fuel cs x hx
  obtain ⟨g1, g2⟩ := hf a h1
  exact ⟨f a, g1, by rw [g2]; exact h2, by rw [g2]; exact h3⟩
theorem rd_int {t : TypeId} {k : IntKind} (ht : P.underlying t = some (.int k)) : RD P t (fun n : Int => [.v (.int k n)]) (fun n => k.min ≤ n ∧ n ≤ k.max) := by
  intro H enc W fuel cs x hx
  obtain ⟨n, rfl, _, hw⟩ := DataW.trod_int ht hx
  exact ⟨n, by simpa [Lit.wf] using hw, Rels.cons (Rel.v _) Rels.nil, rfl⟩
theorem rd_bool {t : TypeId} (ht : P.underlying t = some .bool) : RD P t (fun b : Bool => [.v (.bool b)]) (fun _ => True) := by
  intro H enc W fuel cs x hx
  obtain ⟨n, rfl, _⟩ := DataW.trod_bool ht hx
  exact ⟨n, trivial, Rels.cons (Rel.v _) Rels.nil, rfl⟩
theorem cells_get {W : World} {a : Addr} {n : Nat} {cs : List Value} (h : W.cells? 0 a n = some cs) : cs.length = n ∧ ∀ j v, cs[j]? = some v → W.cell? (a.add j) = some v := by
  simp only [World.cells?, Nat.zero_le, if_true] at h
  have key : ∀ (l : List Nat) (cs : List Value), l.mapM (fun i => W.cell? (a.add i)) = some cs → cs.length = l.length ∧ ∀ (j : Nat) (v : Value), cs[j]? = some v → ∃ i : Nat, l[j]? = some i ∧ W.cell? (a.add i) = some v := by
    intro l
    induction l with
    | nil => intro cs h; simp at h; subst h; simp
    | cons i l ih =>
      intro cs h
      simp only [List.mapM_cons, Option.bind_eq_bind, Option.pure_def] at h
      cases h1 : W.cell? (a.add i) with
      | none => simp [h1] at h
      | some v =>
        cases h2 : l.mapM (fun i => W.cell? (a.add i)) with
        | none => simp [h1, h2] at h
        | some vs =>
          simp [h1, h2] at h
          subst h
          obtain ⟨g1, g2⟩ := ih vs h2
          refine ⟨by simp [g1], fun j u hj => ?_⟩
          cases j with
          | zero => simp at hj; subst hj; exact ⟨i, rfl, h1⟩
          | succ j => obtain ⟨i', k1, k2⟩ := g2 j u (by simpa using hj); exact ⟨i', by simpa using k1, k2⟩
  obtain ⟨h1, h2⟩ := key _ cs h
  refine ⟨by simpa using h1, fun j v hj => ?_⟩
  obtain ⟨i, k1, k2⟩ := h2 j v hj
  have : i = j := by
    have := (List.getElem?_eq_some_iff.1 k1).2; simpa using this.symm
  subst this; exact k2
theorem add_add (a : Addr) (i j : Nat) (hs : a.spot = none) : (a.add i).add j = ⟨a.block, a.off + i + j, none⟩ := by
  obtain ⟨b, o, s⟩ := a
  simp only at hs; subst hs
  rw [addr_add, addr_add]
theorem spot_none {W : World} {a : Addr} {i : Nat} {v : Value} (h : W.cell? (a.add i) = some v) : i = 0 → a.spot = none := by
  intro hi; subst hi
  simp only [Addr.add, if_true] at h
  unfold World.cell? at h
  split at h
  · split at h
    · cases h
    · rename_i hs; simpa using hs
  · cases h
theorem rd_slice {t e : TypeId} {α : Type} {E : α → List AV} {G : α → Prop} {sz : Nat} (ht : sliceT P t = some e) (hsz : szT P e = some (sz + 1)) (h : RD P e E G) (hE : ∀ a, (E a).length = sz + 1)
    (hns : PTC = true → ∀ a, (E a).all noSl = true := by first | (intro h; exact absurd h (by decide)) | (intro _ a; rfl) | (intro _ a; simp [noSl, isSl])) :
    RD P t (fun l : List α => [.sl (sz + 1) (l.map E)]) (fun l => ∀ x ∈ l, G x) := by
  intro H enc W fuel cs x hx
  have hc : P.cellsOf e = sz + 1 := by unfold szT at hsz; simp [Program.cellsOf, hsz]
  rcases DataW.trod_slice (sliceT_un ht) hx with ⟨rfl, _⟩ | ⟨a, len, cap, elems, rest, n, _, rfl, _, _, hlc, _, hel, hget, _⟩
  · exact ⟨[], by simp, Rels.cons (rel_sl_mk 0 0 rfl (Nat.le_refl _) (fun e => absurd rfl e) ⟨fun _ h => by simp at h, fun i cs j c h => by simp at h⟩) Rels.nil, rfl⟩
  · have hone : ∀ i, i < len → ∃ (y : α) (cs : List Value), G y ∧ Rels (C0 W) (E y) cs ∧ (E y).all AV.one = true ∧ W.cells? 0 (a.add (i * (sz + 1))) (sz + 1) = some cs := by
      intro i hi
      have hg := hget i hi
      rw [hc, List.getElem?_eq_getElem (by omega : i < elems.length)] at hg
      cases hcs : W.cells? 0 (a.add (i * (sz + 1))) (sz + 1) with
      | none => simp [hcs] at hg
      | some cs =>
        simp only [hcs, Option.bind_some] at hg
        obtain ⟨y, g1, g2, g3⟩ := h enc W n cs _ hg
        exact ⟨y, cs, g1, g2, g3, rfl⟩
    let f : Fin len → α := fun i => Classical.choose (hone i i.2)
    have hf : ∀ i : Fin len, ∃ cs : List Value, G (f i) ∧ Rels (C0 W) (E (f i)) cs ∧ (E (f i)).all AV.one = true ∧ W.cells? 0 (a.add (i * (sz + 1))) (sz + 1) = some cs := fun i => Classical.choose_spec (hone i i.2)
    have hl : (List.ofFn f).length = len := by simp
    refine ⟨List.ofFn f, fun y hy => ?_, Rels.cons ?_ Rels.nil, rfl⟩
    · obtain ⟨i, rfl⟩ := List.mem_ofFn.1 hy
      obtain ⟨cs, g1, _⟩ := hf i; exact g1
    · have hspot : len ≠ 0 → a.spot = none := by
        intro h0
        obtain ⟨cs, g1, g2, g3, g4⟩ := hf ⟨0, by omega⟩
        obtain ⟨k1, k2⟩ := cells_get g4
        obtain ⟨v, hv⟩ : ∃ v, cs[0]? = some v := ⟨_, List.getElem?_eq_getElem (by omega)⟩
        have := k2 0 v hv
        simp only [Nat.zero_mul] at this
        have h00 : (a.add 0) = a := by simp [Addr.add]
        rw [h00] at this
        exact spot_none this rfl
      refine rel_sl_mk a.block a.off (by simp) hlc (fun hne => ?_) ⟨fun cs hcs => ?_, fun i cs j c h1 h2 => ?_⟩
      · have h0 : len ≠ 0 := by intro h0; apply hne; rw [List.map_eq_nil_iff]; exact List.eq_nil_of_length_eq_zero (by omega)
        have := hspot h0
        obtain ⟨b, o, s⟩ := a; simp only at this; subst this; rfl
      · obtain ⟨y, _, rfl⟩ := List.mem_map.1 hcs; exact hE y
      · rw [List.getElem?_map] at h1
        have hi : i < len := by
          rcases Nat.lt_or_ge i len with h' | h'
          · exact h'
          · rw [List.getElem?_eq_none (by omega)] at h1; simp at h1
        rw [List.getElem?_eq_getElem (by omega : i < (List.ofFn f).length)] at h1
        simp at h1
        obtain ⟨cs', g1, g2, g3, g4⟩ := hf ⟨i, hi⟩
        subst h1
        obtain ⟨k1, k2⟩ := cells_get g4
        obtain ⟨u, hu, hr⟩ := g2.get h2
        have hcell := k2 j u hu
        rw [add_add a _ _ (hspot (by omega))] at hcell
        refine ⟨u, C0_some hcell (hr.one ?_) (fun hp => noSl_rel hr (List.all_eq_true.1 (hns hp _) c (List.mem_of_getElem? h2))), hr⟩
        exact List.all_eq_true.1 g3 c (List.mem_of_getElem? h2)
theorem fieldT_un {s f off ft : Nat} (hf : fieldT P s f = some (off, ft)) : ∃ fs x, P.underlying s = some (.struct fs) ∧ fs[f]? = some x ∧ x.offset = off ∧ x.type = ft := by
  unfold fieldT at hf
  cases hu : P.underlying s with
  | none => simp [hu] at hf
  | some d =>
    cases d with
    | struct fs =>
      cases hx : fs[f]? with
      | none => simp [hu, hx] at hf
      | some x => simp [hu, hx] at hf; exact ⟨fs, x, rfl, hx, hf.1, hf.2⟩
    | _ => simp [hu] at hf
theorem szT_cells {t n : Nat} (h : szT P t = some n) : P.cellsOf t = n := by unfold szT at h; simp [Program.cellsOf, h]
theorem field_trod {H : Type} {enc : TypeId × Value → H} {W : World} {fuel : Nat} {cs : List Value} {x : DataW H × List MemPlace} {t f off ft n : Nat} (hf : fieldT P t f = some (off, ft)) (hn : szT P ft = some n)
    (h : DataW.trod enc P W 0 (fun _ => true) true fuel t cs = some x) : cs.length = P.cellsOf t ∧ (∃ k y, DataW.trod enc P W 0 (fun _ => true) true k ft ((cs.drop off).take n) = some y) := by
  obtain ⟨fs, g, hu, hg, rfl, rfl⟩ := fieldT_un hf
  obtain ⟨xs, k, _, _, hl, hxs, hall⟩ := DataW.trod_struct hu h
  refine ⟨hl, k, ?_⟩
  have := hall f g hg
  rw [szT_cells hn] at this
  have hlt : f < xs.length := by have := (Array.getElem?_eq_some_iff.1 hg).1; omega
  exact ⟨xs[f], by rw [this]; exact List.getElem?_eq_getElem hlt⟩
theorem rd_struct5 {t t0 t1 t2 t3 t4 n0 n1 n2 n3 n4 : Nat} {α0 α1 α2 α3 α4 : Type} {E0 : α0 → List AV} {E1 : α1 → List AV} {E2 : α2 → List AV} {E3 : α3 → List AV} {E4 : α4 → List AV} {G0 : α0 → Prop} {G1 : α1 → Prop} {G2 : α2 → Prop} {G3 : α3 → Prop} {G4 : α4 → Prop} (f0 : fieldT P t 0 = some (0, t0)) (f1 : fieldT P t 1 = some (n0, t1)) (f2 : fieldT P t 2 = some (n0 + n1, t2)) (f3 : fieldT P t 3 = some (n0 + n1 + n2, t3)) (f4 : fieldT P t 4 = some (n0 + n1 + n2 + n3, t4)) (hsz : szT P t = some (n0 + n1 + n2 + n3 + n4)) (c0 : szT P t0 = some n0) (c1 : szT P t1 = some n1) (c2 : szT P t2 = some n2) (c3 : szT P t3 = some n3) (c4 : szT P t4 = some n4) (r0 : RD P t0 E0 G0) (r1 : RD P t1 E1 G1) (r2 : RD P t2 E2 G2) (r3 : RD P t3 E3 G3) (r4 : RD P t4 E4 G4) :
    RD P t (fun a : α0 × α1 × α2 × α3 × α4 => E0 a.1 ++ E1 a.2.1 ++ E2 a.2.2.1 ++ E3 a.2.2.2.1 ++ E4 a.2.2.2.2) (fun a => G0 a.1 ∧ G1 a.2.1 ∧ G2 a.2.2.1 ∧ G3 a.2.2.2.1 ∧ G4 a.2.2.2.2) := by
  intro H enc W fuel cs x hx
  obtain ⟨hl0, k0, y0, hy0⟩ := field_trod f0 c0 hx
  obtain ⟨a0, g0, h0, o0⟩ := r0 enc W k0 _ y0 hy0
  obtain ⟨hl1, k1, y1, hy1⟩ := field_trod f1 c1 hx
  obtain ⟨a1, g1, h1, o1⟩ := r1 enc W k1 _ y1 hy1
  obtain ⟨hl2, k2, y2, hy2⟩ := field_trod f2 c2 hx
  obtain ⟨a2, g2, h2, o2⟩ := r2 enc W k2 _ y2 hy2
  obtain ⟨hl3, k3, y3, hy3⟩ := field_trod f3 c3 hx
  obtain ⟨a3, g3, h3, o3⟩ := r3 enc W k3 _ y3 hy3
  obtain ⟨hl4, k4, y4, hy4⟩ := field_trod f4 c4 hx
  obtain ⟨a4, g4, h4, o4⟩ := r4 enc W k4 _ y4 hy4
  refine ⟨⟨a0, a1, a2, a3, a4⟩, ⟨g0, g1, g2, g3, g4⟩, ?_, by simp only [List.all_append, o0, o1, o2, o3, o4, Bool.and_self]⟩
  rw [szT_cells hsz] at hl0
  have e : cs = (cs.drop (0)).take n0 ++ (cs.drop (n0)).take n1 ++ (cs.drop (n0 + n1)).take n2 ++ (cs.drop (n0 + n1 + n2)).take n3 ++ (cs.drop (n0 + n1 + n2 + n3)).take n4 := by
    apply List.ext_getElem?
    intro j
    simp only [List.getElem?_append, List.getElem?_take, List.getElem?_drop, List.length_append, List.length_take, List.length_drop, hl0]
    repeat' split
    all_goals first | (congr 1; omega) | omega | (rw [List.getElem?_eq_none (by omega)])
  rw [e]
  exact ((((h0).append h1).append h2).append h3).append h4
theorem RD.arg {t : TypeId} {α : Type} {E : α → List AV} {G : α → Prop} (h : RD P t E G) {H : Type} {enc : TypeId × Value → H} {W : World} {v : Value} {d : DataW H} {p : List MemPlace} (hv : DataW.Trod enc P W 0 (fun _ => true) true t v d p) (hna : v.cells = #[v]) {av : α → AV} (hE : ∀ a, E a = [av a]) :
    ∃ a, G a ∧ Rel (C0 W) (av a) v := by
  obtain ⟨fuel, hf⟩ := hv
  obtain ⟨a, h1, h2, h3⟩ := h enc W fuel _ _ hf
  rw [hE, hna] at h2
  exact ⟨a, h1, h2.2 0 _ _ rfl rfl⟩
end Go.Proofs.Ytpkodkoooaldlaa.A
namespace Go.Proofs.Ytpkodkoooaldlaa.A
open Go Go.RowKit
set_option linter.unusedVariables false
set_option linter.unusedSimpArgs false
set_option linter.unusedSectionVars false
variable {P : Program} {w0 : Base} {C0 C : CS} {T : TS} {S S' : AState} {a : Act} {w : World} {ops : Array Oper} {rest : List Oper} {o : Oper} {Q : Exit → AState → Prop}
variable {t : Nat} {ty : TypeId} {pos : String} {aft : Array Edge}
theorem AW.keep {f : FuncId} {args : List AV} {objs : List OE} {R : AV → List OE → Prop} (h : AC P f args objs R) : AW P f args [] objs (fun r n => ∃ n', R r n' ∧ n = n' ++ objs) :=
  fun C w vals h1 h2 h3 => by
    have h3' : Objs C objs w := h3
    refine (h C w vals h1 h2 h3').mono fun e w' ⟨v, C', r, n, g1, g2, g3, g4, g5, g6, g7, g8⟩ => ⟨v, C', r, n ++ objs, g1, ⟨n, g2, rfl⟩, BelowX.of g3, fun b o hb _ => g4 b o hb, g5, g6, ⟨fun e he => ?_, ?_⟩, fun e he => ?_⟩
    · rcases List.mem_append.1 he with he | he
      · exact g7.1 e he
      · obtain ⟨k1, k2⟩ := h3'.1 e he
        have hlt := k1.nodef.1
        refine ⟨k1.mono (fun b o v hc => ?_) (g3.block _ hlt), fun o => by rw [g4 _ _ hlt]; exact k2 o⟩
        have hb : b < w.heap.size := by have := World.block_lt_of_cell? w _ (h1.1 _ _ _ hc).cell; simpa using this
        rw [g4 _ _ hb]; exact hc
    · exact List.pairwise_append.2 ⟨g7.2, h3'.2, fun e he e' he' hb => by have := g8 e he; have := (h3'.1 e' he').1.nodef.1; omega⟩
    · rcases List.mem_append.1 he with he | he
      · exact .inl (g8 e he)
      · exact .inr ⟨e, he, rfl⟩
theorem AW.ac {f : FuncId} {args : List AV} {R : AV → List OE → Prop} (h : AW P f args [] [] R) : AC P f args [] R :=
  fun C w vals h1 h2 h3 => (h C w vals h1 h2 h3).mono fun e w' ⟨v, C', r, n, g1, g2, g3, g4, g5, g6, g7, g8⟩ =>
    ⟨v, C', r, n, g1, g2, ⟨g3.os, g3.tape, g3.output, g3.size, fun k hk => g3.block k hk wb_nil⟩, fun b o hb => g4 b o hb wb_nil, g5, g6, g7, fun e he => (g8 e he).resolve_right wb_nil⟩
end Go.Proofs.Ytpkodkoooaldlaa.A
namespace Go.Proofs.Ytpkodkoooaldlaa.A
open Go Go.RowKit
set_option linter.unusedVariables false
set_option linter.unusedSimpArgs false
set_option linter.unusedSectionVars false
variable {P : Program} {w0 : Base} {C0 C : CS} {T : TS} {S S' : AState} {a : Act} {w : World} {ops : Array Oper} {rest : List Oper} {o : Oper} {Q : Exit → AState → Prop}
def backB (ops : Array Oper) : Bool := (List.range ops.size).all (fun i => (depsOf ops i).all fun j => decide (j < i))
def setB (B : Nat → Bool) (i : Nat) : Nat → Bool := fun j => cond (Nat.beq j i) true (B j)
theorem setB_same {B : Nat → Bool} {i : Nat} : setB B i i = true := by simp [setB]
theorem setB_ne {B : Nat → Bool} {i j : Nat} (h : Nat.beq j i = false) : setB B i j = B j := by simp [setB, h]
def AnyStep (P : Program) (w0 : Base) (C0 : CS) (ops : Array Oper) (I : (Nat → Bool) → AState → Prop) (i : Nat) : Prop :=
  ∃ o, ops[i]? = some o ∧ ∀ (B : Nat → Bool) (S : AState), B i = false → (∀ j, (depsOf ops i).contains j = true → B j = true) → (∀ j k, B j = true → (depsOf ops j).contains k = true → B k = true) → I B S →
    AWL P w0 C0 ops [o] (fun e S' => e = .normal ∧ I (setB B i) S') S
theorem any_wp {I : (Nat → Bool) → AState → Prop} (hb : backB ops = true) (hstep : ∀ i, i < ops.size → AnyStep P w0 C0 ops I i) (hend : ∀ B S, (∀ i, i < ops.size → B i = true) → I B S → Q .normal S) :
    ∀ (fuel : Nat) (listed : Array Bool) (a : Act) (w : World) (S1 : AState) (B : Nat → Bool), listed.size = ops.size → (List.range ops.size).countP (fun i => !listed.getD i false) ≤ fuel → (∀ j, j < ops.size → B j = listed.getD j false) → (∀ j, ops.size ≤ j → B j = false) → (∀ j k, B j = true → (depsOf ops j).contains k = true → B k = true) →
      I B S1 → Sim w0 C0 S1 a w → wpAny P .any ops (Lift w0 C0 Q) fuel listed a w := by
  have hback : ∀ i, i < ops.size → ∀ j ∈ depsOf ops i, j < i := fun i hi j hj => by
    have := List.all_eq_true.1 hb i (List.mem_range.2 hi)
    exact of_decide_eq_true (List.all_eq_true.1 this j hj)
  have fin : ∀ (fuel : Nat) (listed : Array Bool) (a : Act) (w : World) (S1 : AState) (B : Nat → Bool), listed.size = ops.size → (∀ j, j < ops.size → B j = listed.getD j false) → (∀ i, i < ops.size → listed.getD i false = true) → I B S1 → Sim w0 C0 S1 a w → wpAny P .any ops (Lift w0 C0 Q) fuel listed a w := by
    intro fuel listed a w S1 B hsz hB hall hI hs
    have hq : Lift w0 C0 Q .normal a w := ⟨S1, hs, hend B S1 (fun i hi => by rw [hB i hi]; exact hall i hi) hI⟩
    have hr : Region.ready .any ops listed = [] := by
      cases hr : Region.ready .any ops listed with
      | nil => rfl
      | cons j r =>
        have hj : j ∈ Region.ready .any ops listed := by rw [hr]; simp
        obtain ⟨k1, k2, _⟩ := ready_deps hj
        have := hall j k1
        have hjs : j < listed.size := by omega
        simp [Array.getD, hjs] at this k2
        rw [this] at k2; cases k2
    cases fuel with
    | zero => exact ⟨hr, hq⟩
    | succ f => exact ⟨fun _ => hq, fun j hj => by rw [hr] at hj; cases hj⟩
  intro fuel
  induction fuel with
  | zero =>
    intro listed a w S1 B hsz hf hB hB2 hcl hI hs
    have hz : (List.range ops.size).countP (fun j => !listed.getD j false) = 0 := by omega
    refine fin 0 listed a w S1 B hsz hB (fun j hj => ?_) hI hs
    have := List.countP_eq_zero.1 hz j (List.mem_range.2 hj)
    simpa using this
  | succ fuel ih =>
    intro listed a w S1 B hsz hf hB hB2 hcl hI hs
    by_cases hall : ∀ i, i < ops.size → listed.getD i false = true
    · exact fin _ listed a w S1 B hsz hB hall hI hs
    refine ⟨fun hr => absurd (fun i hi => all_listed hsz hback hr i hi) hall, fun i hi => ?_⟩
    obtain ⟨h1, h2, h3⟩ := ready_deps hi
    have hi' : i < listed.size := by omega
    have hlf : listed.getD i false = false := by simp [Array.getD, hi'] at h2 ⊢; exact h2
    obtain ⟨o, ho, hst⟩ := hstep i h1
    refine wpOp_of_awl ho (hst B S1 (by rw [hB i h1]; exact hlf) (fun j hj => by
      have hj' : j ∈ depsOf ops i := by simpa using hj
      rw [hB j (by have := hback i h1 j hj'; omega)]; exact h3 j hj') hcl hI) hs (fun a' w' S' hS' hs' => ?_)
    have hc := count_set (n := ops.size) h1 hi' hlf
    refine ih _ a' w' S' (setB B i) (by simp [hsz]) (by omega) (fun j hj => ?_) (fun j hj => ?_) (fun j k hj hk => ?_) hS' hs'
    · by_cases e : j = i
      · subst e; rw [setB_same]; simp [Array.getD, hi']
      · have hbn : Nat.beq j i = false := by cases h : Nat.beq j i with | false => rfl | true => exact absurd (Nat.eq_of_beq_eq_true h) e
        rw [setB_ne hbn, getD_set_ne false (fun h => e h.symm)]; exact hB j hj
    · have hbn : Nat.beq j i = false := by cases h : Nat.beq j i with | false => rfl | true => exact absurd (Nat.eq_of_beq_eq_true h) (by omega)
      rw [setB_ne hbn]; exact hB2 j hj
    · have key : B k = true := by
        by_cases e : j = i
        · subst e
          have hk' : k ∈ depsOf ops j := by simpa using hk
          rw [hB k (by have := hback j h1 k hk'; omega)]; exact h3 k hk'
        · have hbn : Nat.beq j i = false := by cases h : Nat.beq j i with | false => rfl | true => exact absurd (Nat.eq_of_beq_eq_true h) e
          rw [setB_ne hbn] at hj; exact hcl j k hj hk
      unfold setB
      cases Nat.beq k i <;> simp [key]
theorem awp_any {id : Nat} {l : List Oper} (I : (Nat → Bool) → AState → Prop) (hm : P.follows .mixedOrders = true) (hb : backB l.toArray = true) (h0 : I (fun _ => false) S)
    (hstep : Steps (AnyStep P w0 C0 l.toArray I) l.length) (hend : ∀ B S, (∀ i, i < l.length → B i = true) → I B S → Q .normal S) : AWP P w0 C0 (.region id l.toArray true) Q S := by
  intro a w hs
  refine wp_region_any hm (any_wp hb (fun i hi => hstep.all i (by simpa using hi)) (fun B S h hI => hend B S (fun i hi => h i (by simpa using hi)) hI) _ _ a _ S (fun _ => false) (by simp) ?_ (fun j hj => by simp [Array.getD]) (fun _ _ => rfl) (fun j k h => by cases h) h0 ?_)
  · have := List.countP_le_length (p := fun i => !(Array.replicate l.toArray.size false).getD i false) (l := List.range l.toArray.size); simpa using this
  · obtain ⟨C, T, hs⟩ := hs
    exact ⟨C, T, hs.drew⟩
theorem get_put {t k : Nat} {x : SV} : (S.put k x).get t = if k = t then some x else S.get t := by simp only [AState.get, AState.put, find_cons]
theorem get_put_same {t : Nat} {x : SV} : (S.put t x).get t = some x := by rw [get_put, if_pos rfl]
theorem imp_boxLe (i : Nat) {b : Nat} {cs cs' : List AV} (hi : S.objs[i]? = some ⟨b, true, .box cs⟩) (h : LeCells cs cs') : Imp w0 C0 S ⟨S.nt, S.slots, S.objs.set i ⟨b, true, .box cs'⟩⟩ := by
  rintro a w ⟨C, T, hs⟩
  obtain ⟨barr, bt, b1, b2⟩ := (hs.objs _ (mem_of_get hi)).1
  exact ⟨C, T, hs.setObj hi (w' := w) (Nat.le_refl _) rfl rfl rfl rfl (fun _ _ => rfl) ⟨barr, bt, b1, h.rels b2⟩⟩
end Go.Proofs.Ytpkodkoooaldlaa.A
namespace Go.Proofs.Ytpkodkoooaldlaa.A
open Go Go.RowKit
set_option linter.unusedVariables false
set_option linter.unusedSimpArgs false
set_option linter.unusedSectionVars false
variable {P : Program} {w0 : Base} {C0 C : CS} {T : TS} {S S' : AState} {a : Act} {w : World} {ops : Array Oper} {rest : List Oper} {o : Oper} {Q : Exit → AState → Prop}
variable {t : Nat} {ty ty' : TypeId} {pos : String} {aft : Array Edge}
inductive SepAV (p : Value → Bool) : AV → Prop where
  | v (x : Value) : SepAV p (.v x)
  | sl (sz : Nat) (l : List (List AV)) (h : ∀ cs ∈ l, ∀ c ∈ cs, ∃ v, c = .v v ∧ p v = true) : SepAV p (.sl sz l)
theorem SepAV.rel {p : Value → Bool} {x : AV} (h : SepAV p x) {b : Nat} (hb : ∀ o v, C b o = some v → p v = false) {u : Value} (r : Rel C x u) : Rel (fun b' o => if b' = b then none else C b' o) x u := by
  cases h with
  | v x => cases r; exact .v _
  | sl sz l h =>
    obtain ⟨A, cap, b', o', rfl, q1, q2, q3⟩ := rel_sl_inv r
    refine rel_sl_mk b' o' rfl q1 q2 ⟨q3.1, fun i cs j c h1 h2 => ?_⟩
    obtain ⟨u1, hu1, hu2⟩ := q3.2 i cs j c h1 h2
    obtain ⟨v, rfl, hv⟩ := h cs (List.mem_of_getElem? h1) c (List.mem_of_getElem? h2)
    cases hu2
    have hne : b' ≠ b := fun e => by subst e; rw [hb _ _ hu1] at hv; cases hv
    exact ⟨_, by simp only [hne, if_false]; exact hu1, .v _⟩
theorem r_loadAbe (i : Nat) (cs' : List AV) {x : Operand} {b o n : Nat} {rw' : Bool} {cs : List AV} (he : (cs.drop o).take n = cs') (hx : S.ev x = some (.a (.v (.pointer (some ⟨b, o, none⟩))))) (hi : S.objs[i]? = some ⟨b, rw', .box cs⟩)
    (hA : aggT P ty' = some true) (hn : szT P ty' = some n) (hl : Nat.ble (o + n) cs.length = true) (ht : Nat.blt t S.nt = true)
    (hr : AWL P w0 C0 ops rest Q (S.put t (.a (.agg cs')))) : AWL P w0 C0 ops (⟨some t, .load ty' x, ty, pos, aft, none⟩ :: rest) Q S := by
  subst he; exact r_loadAb i hx hi hA hn hl ht hr
theorem flat_drop {α : Type} {f : α → List AV} {n : Nat} (hf : ∀ x, (f x).length = n) : ∀ {l : List α} {k : Nat} {x : α} {ext : List AV}, l[k]? = some x → ((((l.map f).flatten ++ ext).drop (0 + k * n)).take n = f x) ∧ 0 + k * n + n ≤ ((l.map f).flatten ++ ext).length
  | [], k, x, ext, h => by simp at h
  | y :: l, 0, x, ext, h => by
    simp at h; subst h
    constructor
    · simp only [List.map_cons, List.flatten_cons, Nat.zero_mul, Nat.add_zero, List.drop_zero]
      rw [List.append_assoc, List.take_append_of_le_length (by rw [hf]; exact Nat.le_refl _), List.take_of_length_le (by rw [hf]; exact Nat.le_refl _)]
    · simp [hf] <;> omega
  | y :: l, k + 1, x, ext, h => by
    obtain ⟨h1, h2⟩ := flat_drop hf (l := l) (k := k) (ext := ext) (by simpa using h)
    have e : 0 + (k + 1) * n = n + (0 + k * n) := by rw [Nat.succ_mul]; omega
    constructor
    · rw [e]
      simp only [List.map_cons, List.flatten_cons]
      rw [List.append_assoc, ← List.drop_drop]
      rw [List.drop_left' (hf y)]
      exact h1
    · rw [e]
      simp only [List.map_cons, List.flatten_cons, List.append_assoc, List.length_append, hf] at h2 ⊢
      omega
theorem flat_set {α : Type} {f : α → List AV} {n : Nat} (hf : ∀ x, (f x).length = n) : ∀ {l : List α} {k : Nat} {x : α} {ext : List AV}, k < l.length → ((l.map f).flatten ++ ext).take (0 + k * n) ++ f x ++ ((l.map f).flatten ++ ext).drop (0 + k * n + n) = ((l.set k x).map f).flatten ++ ext
  | [], k, x, ext, h => by simp at h
  | y :: l, 0, x, ext, h => by
    simp only [List.set_cons_zero, List.map_cons, List.flatten_cons, Nat.zero_mul, Nat.add_zero, List.take_zero, List.nil_append, Nat.zero_add]
    rw [List.append_assoc, List.append_assoc, List.drop_left' (hf y)]
  | y :: l, k + 1, x, ext, h => by
    have ih := flat_set hf (l := l) (k := k) (x := x) (ext := ext) (by simpa using h)
    have e : 0 + (k + 1) * n = n + (0 + k * n) := by rw [Nat.succ_mul]; omega
    rw [e]
    simp only [List.set_cons_succ, List.map_cons, List.flatten_cons, List.append_assoc]
    rw [show n + (0 + k * n) = (f y).length + (0 + k * n) by rw [hf], List.take_length_add_append, show (f y).length + (0 + k * n) + n = (f y).length + (0 + k * n + n) by omega, List.drop_length_add_append]
    rw [List.append_assoc] at ih
    rw [List.append_assoc, ih]
end Go.Proofs.Ytpkodkoooaldlaa.A
namespace Go.Proofs.Ytpkodkoooaldlaa.A
open Go Go.RowKit
set_option linter.unusedVariables false
set_option linter.unusedSimpArgs false
set_option linter.unusedSectionVars false
variable {P : Program} {w0 : Base} {C0 C : CS} {T : TS} {S S' : AState} {a : Act} {w : World} {ops : Array Oper} {rest : List Oper} {o : Oper} {Q : Exit → AState → Prop}
variable {t : Nat} {ty ty' : TypeId} {pos : String} {aft : Array Edge}
inductive PN : AV → Bool → Prop where
  | nil : PN (.v (.pointer none)) true
  | v (A : Addr) : PN (.v (.pointer (some A))) false
  | pt (b : Nat) (cs : List AV) : PN (.pt b cs) false
  | cp (cs : List AV) : PN (.cp cs) false
theorem PN.rel {x : AV} {n : Bool} (h : PN x n) {u : Value} (r : Rel C x u) : ∃ A : Option Addr, u = .pointer A ∧ A.isNone = n := by
  cases h with
  | nil => cases r; exact ⟨_, rfl, rfl⟩
  | v A => cases r; exact ⟨_, rfl, rfl⟩
  | pt b cs => obtain ⟨rfl, _⟩ := rel_pt_inv r; exact ⟨_, rfl, rfl⟩
  | cp cs => obtain ⟨b, o, rfl, _⟩ := rel_cp_inv r; exact ⟨_, rfl, rfl⟩
theorem run_equalIn_p (w : World) (d : Nat) (t e : TypeId) (A : Option Addr) (h : P.underlying t = some (.pointer e)) :
    (Op.equalIn (d + 1) t (.pointer A) (.pointer none)).run P w = .ok A.isNone w := by
  cases A <;> simp [Op.equalIn, Sem.run_bind, run_underlying h]
theorem eqGuard_p (op : BinOp) (t : TypeId) (p q : Operand) (A B : Option Addr) : eqGuard op t p q (.pointer A) (.pointer B) = pure () := by
  cases op <;> simp [eqGuard]
theorem r_pnil {xt yt e : TypeId} {x : Operand} {sv : SV} {n : Bool} (hx : S.ev x = some sv) (hn : PN sv.av n) (hu : P.underlying xt = some (.pointer e)) (ht : Nat.blt t S.nt = true)
    (hr : AWL P w0 C0 ops rest Q (S.put t (.a (.v (.bool n))))) : AWL P w0 C0 ops (⟨some t, .binOp .eql xt x (.const (.pointer none)) yt, ty, pos, aft, none⟩ :: rest) Q S :=
  awl_pure ht (fun C T a w hs => by
    obtain ⟨A, hv, rfl⟩ := hn.rel (hs.ev hx).av
    refine ⟨.bool A.isNone, ?_, srel_v _⟩
    have : (binOp .eql xt (.pointer A) (.pointer none)).run P w = .ok (.bool A.isNone) w := by
      simp only [binOp]
      simp [Op.equal, Op.maxDepth, run_equalIn_p w 9999 xt e A hu]
    simp [execOp, hv, show a.eval (.const (.pointer none)) = .pointer none from rfl, eqGuard_p, this]) hr
theorem r_pnnil {xt yt e : TypeId} {x : Operand} {sv : SV} {n : Bool} (hx : S.ev x = some sv) (hn : PN sv.av n) (hu : P.underlying xt = some (.pointer e)) (ht : Nat.blt t S.nt = true)
    (hr : AWL P w0 C0 ops rest Q (S.put t (.a (.v (.bool !n))))) : AWL P w0 C0 ops (⟨some t, .binOp .neq xt x (.const (.pointer none)) yt, ty, pos, aft, none⟩ :: rest) Q S :=
  awl_pure ht (fun C T a w hs => by
    obtain ⟨A, hv, rfl⟩ := hn.rel (hs.ev hx).av
    refine ⟨.bool !A.isNone, ?_, srel_v _⟩
    have : (binOp .neq xt (.pointer A) (.pointer none)).run P w = .ok (.bool !A.isNone) w := by
      simp only [binOp]
      simp [Op.equal, Op.maxDepth, run_equalIn_p w 9999 xt e A hu]
    simp [execOp, hv, show a.eval (.const (.pointer none)) = .pointer none from rfl, eqGuard_p, this]) hr
theorem r_nilCheck {x : Operand} {c : AV} (hx : S.ev x = some (.a c)) (hn : PN c false) (ht : Nat.blt t S.nt = true)
    (hr : AWL P w0 C0 ops rest Q (S.put t (.a c))) : AWL P w0 C0 ops (⟨some t, .nilCheck x, ty, pos, aft, none⟩ :: rest) Q S :=
  awl_pure ht (fun C T a w hs => by
    have h := hs.ev hx
    obtain ⟨A, hv, hA⟩ := hn.rel h
    rw [hv] at h
    cases A with
    | none => cases hA
    | some A => exact ⟨.pointer (some A), by simp [execOp, hv], h⟩) hr
theorem r_fieldpt {x : Operand} {s f off ft n b : Nat} {cs : List AV} (hx : S.ev x = some (.a (.pt b cs))) (hf : fieldT P s f = some (off, ft)) (hn : szT P ft = some (n + 1)) (ht : Nat.blt t S.nt = true)
    (hr : AWL P w0 C0 ops rest Q (S.put t (.a (.cp (cs.drop off))))) : AWL P w0 C0 ops (⟨some t, .fieldAddr s x f, ty, pos, aft, none⟩ :: rest) Q S :=
  awl_pure ht (fun C T a w hs => by
    have h := hs.ev hx
    generalize hv : a.eval x = u at h
    obtain ⟨rfl, hc⟩ := rel_pt_inv h
    refine ⟨.pointer (some ⟨b, 0 + off, none⟩), by simp [execOp, hv, run_fieldAt hf hn], rel_cp_mk (fun j c hj => ?_)⟩
    rw [List.getElem?_drop] at hj
    have := hc _ _ hj
    rwa [Nat.zero_add]) hr
theorem imp_commitP (i t : Nat) {b : Nat} {cs : List AV} (ht : S.get t = some (.a (.v (.pointer (some ⟨b, 0, none⟩))))) (hi : S.objs[i]? = some ⟨b, true, .box cs⟩) (h1 : cs.all AV.one = true) (htn : Nat.blt t S.nt = true) :
    Imp w0 C0 S (AState.put ⟨S.nt, S.slots, S.objs.eraseIdx i⟩ t (.a (.pt b cs))) := by
  rintro a w hs
  have hv : a.tmps.getD t undef = .pointer (some ⟨b, 0, none⟩) := by
    obtain ⟨C, T, hs⟩ := hs
    have := hs.slots _ _ ht
    generalize a.tmps.getD t undef = u at this ⊢
    cases this; rfl
  obtain ⟨C, T, hs'⟩ := imp_commit i t ht hi h1 htn a w hs
  refine ⟨C, T, hs'.below, hs'.com, hs'.one, hs'.old, hs'.objs, hs'.apart, hs'.toks, hs'.tokne, hs'.size, fun t' z hz => ?_, hs'.defers, hs'.dr⟩
  simp only [AState.get, AState.put, find_cons] at hz
  split at hz
  · rename_i e; subst e; cases hz
    have h2 := hs'.slots t (.a (.cp (cs.drop 0))) (by simp [AState.get, AState.put, find_cons])
    rw [hv] at h2 ⊢
    obtain ⟨b', o', hb', hc⟩ := rel_cp_inv h2
    cases hb'
    exact rel_pt_mk (fun j c hj => by have := hc j c (by simpa using hj); rwa [Nat.zero_add] at this)
  · rename_i e
    exact hs'.slots t' z (by simp only [AState.get, AState.put, find_cons, if_neg e]; exact hz)
structure PtrMap (P : Program) (mt kt et e n : Nat) : Prop where
  mt : mapT P mt = some (kt, et)
  kt : P.underlying kt = some (.pointer e)
  sz : szT P e = some (n + 1)
  z : ZeroAV P et (.v (.bool false))
def PtAV (x : AV) (b : Nat) : Prop := ∃ sz l cs, x = .pt b (.sl sz l :: cs)
theorem PtAV.ok {x : AV} {b : Nat} (h : PtAV x b) {u : Value} (r : Rel C x u) : u = ptr b ∧ PtrOk C b := by
  obtain ⟨sz, l, cs, rfl⟩ := h
  obtain ⟨rfl, h⟩ := rel_pt_inv r
  obtain ⟨u, h1, h2⟩ := h 0 _ rfl
  obtain ⟨A, cap, b', o, rfl, _⟩ := rel_sl_inv h2
  exact ⟨rfl, _, _, _, h1⟩
end Go.Proofs.Ytpkodkoooaldlaa.A
namespace Go.Proofs.Ytpkodkoooaldlaa.A
open Go Go.RowKit
set_option linter.unusedVariables false
set_option linter.unusedSimpArgs false
structure Sp where
  br : Int
  vo : Int
  bl : Int
  nu : Int
  deriving DecidableEq, Inhabited
def Sp.cs (s : Sp) : List AV := [.v (.int .i64 s.br), .v (.int .i64 s.vo), .v (.int .i64 s.bl), .v (.int .u64 s.nu)]
def Sp.z : Sp := ⟨0, 0, 0, 0⟩
def spA (s : Sp) : AV := .agg s.cs
def u64c (v : Int) : List AV := [.v (.int .u64 v)]
def i64c (v : Int) : List AV := [.v (.int .i64 v)]
def cmpIT (x y : Int) : Int := if x < y then -1 else if y < x then 1 else 0
def orI : List Int → Int
  | [] => 0
  | x :: r => if x = 0 then orI r else x
def Sp.ord (a b : Sp) : Int := orI [cmpIT a.br b.br, cmpIT a.vo b.vo, cmpIT a.bl b.bl, cmpIT a.nu b.nu]
def Sp.lt (a b : Sp) : Prop := a.ord b < 0
instance (a b : Sp) : Decidable (a.lt b) := inferInstanceAs (Decidable (a.ord b < 0))
theorem orI_zeros {n : Nat} : ∀ {l : List Int}, (∀ x ∈ l, x = 0) → orI l = 0
  | [], _ => rfl
  | x :: r, h => by rw [orI, if_pos (h x List.mem_cons_self)]; exact orI_zeros (n := n) (fun y hy => h y (List.mem_cons_of_mem _ hy))
theorem orI_take {l : List Int} {k : Nat} {x : Int} (hx : l[k]? = some x) (h : ∀ j, j < k → ∀ y, l[j]? = some y → y = 0) : orI l = orI (l.drop k) := by
  induction k generalizing l with
  | zero => rfl
  | succ k ih =>
    cases l with
    | nil => simp at hx
    | cons y r =>
      rw [orI, if_pos (h 0 (by omega) y rfl)]
      exact ih (by simpa using hx) (fun j hj z hz => h (j + 1) (by omega) z (by simpa using hz))
theorem orI_hit {l : List Int} {k : Nat} {x : Int} (hx : l[k]? = some x) (h : ∀ j, j < k → ∀ y, l[j]? = some y → y = 0) (h0 : x ≠ 0) : orI l = x := by
  rw [orI_take hx h]
  have hk := (List.getElem?_eq_some_iff.1 hx).1
  rw [List.drop_eq_getElem_cons hk, orI]
  have : l[k] = x := (List.getElem?_eq_some_iff.1 hx).2
  rw [this, if_neg h0]
theorem orI_none {l : List Int} (h : ∀ j, j < l.length → ∀ y, l[j]? = some y → y = 0) : orI l = 0 :=
  orI_zeros (n := 0) (fun x hx => by obtain ⟨j, hj⟩ := List.getElem?_of_mem hx; exact h j (List.getElem?_eq_some_iff.1 hj).1 x hj)
def ndA (b : Nat) (ks : List Sp) (vs : List Int) (kd : List AV) : AV := .pt b [.sl 4 (ks.map Sp.cs), .sl 1 (vs.map u64c), .sl 1 (kd.map fun x => [x])]
def boolA (b : Bool) : AV := .v (.bool b)
def nilP : AV := .v (.pointer none)
def findL (k : Sp) : List Sp → Nat × Bool
  | [] => (0, false)
  | x :: r => if 0 ≤ x.ord k then (0, decide (x.ord k = 0)) else ((findL k r).1 + 1, (findL k r).2)
def findR (k : Sp) (l : List Sp) : Nat → Nat × Bool
  | 0 => (0, false)
  | n + 1 => match l[n]? with
    | some x => if x.ord k ≤ 0 then (n, decide (x.ord k = 0)) else findR k l n
    | none => findR k l n
def findN (k : Sp) (ks : List Sp) (leaf : Bool) : Nat × Bool := if leaf then findL k ks else findR k ks ks.length
theorem findL_hit {k : Sp} : ∀ {l : List Sp} {i : Nat} {x : Sp}, l[i]? = some x → (∀ j, j < i → ∀ y, l[j]? = some y → ¬ 0 ≤ y.ord k) → 0 ≤ x.ord k → findL k l = (i, decide (x.ord k = 0))
  | [], i, x, h, _, _ => by simp at h
  | y :: r, 0, x, h, _, h0 => by simp at h; subst h; simp [findL, h0]
  | y :: r, i + 1, x, h, hp, h0 => by
    have := findL_hit (l := r) (i := i) (by simpa using h) (fun j hj z hz => hp (j + 1) (by omega) z (by simpa using hz)) h0
    simp [findL, hp 0 (by omega) y rfl, this]
theorem findL_end {k : Sp} : ∀ {l : List Sp}, (∀ j, j < l.length → ∀ y, l[j]? = some y → ¬ 0 ≤ y.ord k) → findL k l = (l.length, false)
  | [], _ => rfl
  | y :: r, hp => by
    have := findL_end (l := r) (fun j hj z hz => hp (j + 1) (by simp; omega) z (by simpa using hz))
    simp [findL, hp 0 (by simp) y rfl, this]
theorem findR_hit {k : Sp} {l : List Sp} {i : Nat} {x : Sp} (hx : l[i]? = some x) (h0 : x.ord k ≤ 0) : findR k l (i + 1) = (i, decide (x.ord k = 0)) := by
  simp [findR, hx, h0]
theorem findR_step {k : Sp} {l : List Sp} {i : Nat} {x : Sp} (hx : l[i]? = some x) (h0 : ¬ x.ord k ≤ 0) : findR k l (i + 1) = findR k l i := by
  simp [findR, hx, h0]
end Go.Proofs.Ytpkodkoooaldlaa.A
namespace Go.Proofs.Ytpkodkoooaldlaa.A
open Go Go.RowKit
set_option linter.unusedVariables false
set_option linter.unusedSimpArgs false
set_option maxRecDepth 100000
theorem TF.en76 : entersT Try.prog 76 := enters_of Try.func76 (by kernel_rfl) (by kernel_rfl)
theorem TF.en92 : entersT Try.prog 92 := enters_of Try.func92 (by kernel_rfl) (by kernel_rfl)
theorem TF.sl123 : sliceT Try.prog 123 = some 3 := by kernel_rfl
theorem TF.sz3 : szT Try.prog 3 = some 1 := by kernel_rfl
theorem TF.agg3 : aggT Try.prog 3 = some false := by kernel_rfl
theorem TF.zero47 : ZeroT Try.prog 47 [.v (.int .i64 0), .v (.int .i64 0), .v (.int .i64 0)] := ⟨[(.int .i64 0), (.int .i64 0), (.int .i64 0)], by kernel_rfl, (LeCells.refl _)⟩
theorem TF.sz47 : szT Try.prog 47 = some 3 := by kernel_rfl
theorem TF.mixed : Try.prog.follows .mixedOrders = true := by kernel_rfl
theorem TF.f73_0 : fieldT Try.prog 73 0 = some (0, 47) := by kernel_rfl
theorem TF.agg47 : aggT Try.prog 47 = some true := by kernel_rfl
theorem TF.f47_0 : fieldT Try.prog 47 0 = some (0, 3) := by kernel_rfl
theorem TF.en63 : entersT Try.prog 63 := enters_of Try.func63 (by kernel_rfl) (by kernel_rfl)
theorem TF.f47_1 : fieldT Try.prog 47 1 = some (1, 3) := by kernel_rfl
theorem TF.f47_2 : fieldT Try.prog 47 2 = some (2, 3) := by kernel_rfl
theorem TF.f73_1 : fieldT Try.prog 73 1 = some (3, 31) := by kernel_rfl
theorem TF.sz31 : szT Try.prog 31 = some 1 := by kernel_rfl
theorem TF.agg31 : aggT Try.prog 31 = some false := by kernel_rfl
theorem TF.en78 : entersT Try.prog 78 := enters_of Try.func78 (by kernel_rfl) (by kernel_rfl)
theorem TF.zraw3 : zeroT Try.prog 3 = some [(.int .i64 0)] := by kernel_rfl
theorem TF.en77 : entersT Try.prog 77 := enters_of Try.func77 (by kernel_rfl) (by kernel_rfl)
theorem isNaN_int_q (x : Int) : ACq Try.prog 76 [.v (.int .i64 x)] [] (fun r n => n = [] ∧ r = boolA false) := by
 refine acq_of_awp (rs := [2]) (nt := 6) Try.func76 rfl rfl rfl rfl (fun w0 C0 hq => ?_)
 refine awp_seq ?_
 refine awp_region ?_
 refine r_assign rfl rfl ?_
 refine awl_nil ?_
 refine x_then ?_
 refine awp_seq ?_
 refine awp_region ?_
 refine r_move rfl rfl ?_
 refine r_move rfl rfl ?_
 refine r_cmp rfl rfl rfl rfl ?_
 refine r_assign rfl rfl ?_
 refine awl_nil ?_
 refine x_then ?_
 refine awp_ret ?_
 exact ⟨(.inl rfl), _, [], (.one (by first | exact .mk rfl rfl | exact .nil rfl)), ⟨rfl, by first | rfl | (simp [boolA]; rfl)⟩, (List.nil_sublist _), (by simp)⟩
theorem cmpI_ok_q (x y : Int) : ACq Try.prog 63 [.v (.int .i64 x), .v (.int .i64 y)] [] (fun r n => n = [] ∧ r = .v (.int .i64 (cmpIT x y))) := by
 refine acq_of_awp (rs := [4]) (nt := 20) Try.func63 rfl rfl rfl rfl (fun w0 C0 hq => ?_)
 refine awp_seq ?_
 refine awp_region ?_
 refine r_assign rfl rfl ?_
 refine awl_nil ?_
 refine x_then ?_
 refine awp_seq ?_
 refine awp_region ?_
 refine r_move rfl rfl ?_
 refine r_callq0 rfl rfl (.cons (.ev rfl rfl) .nil) (isNaN_int_q x) rfl TF.en76 rfl (fun r hr => ?_)
 obtain rfl := hr
 refine r_assign rfl rfl ?_
 refine awl_nil ?_
 refine x_then ?_
 refine awp_seq ?_
 refine awp_region ?_
 refine r_move rfl rfl ?_
 refine r_callq0 rfl rfl (.cons (.ev rfl rfl) .nil) (isNaN_int_q y) rfl TF.en76 rfl (fun r hr => ?_)
 obtain rfl := hr
 refine r_assign rfl rfl ?_
 refine awl_nil ?_
 refine x_then ?_
 refine awp_seq ?_
 refine awp_seq ?_
 refine awp_region ?_
 refine r_move rfl rfl ?_
 refine awl_nil ?_
 refine x_then ?_
 refine awp_cond rfl (fun hc0 => ?_) (fun hc0 => ?_)
 ·
  cases hc0
 ·
  refine awp_skip ?_
  refine x_then ?_
  refine awp_seq ?_
  refine awp_seq ?_
  refine awp_region ?_
  refine r_move rfl rfl ?_
  refine awl_nil ?_
  refine x_then ?_
  refine awp_cond rfl (fun hc2 => ?_) (fun hc2 => ?_)
  ·
   cases hc2
  ·
   refine awp_skip ?_
   refine x_then ?_
   refine awp_seq ?_
   refine awp_seq ?_
   refine awp_region ?_
   refine r_move rfl rfl ?_
   refine r_move rfl rfl ?_
   refine r_cmp rfl rfl rfl rfl ?_
   refine awl_nil ?_
   refine x_then ?_
   refine awp_cond rfl (fun hc3 => ?_) (fun hc3 => ?_)
   ·
    have h1 : x < y := of_decide_eq_true hc3
    refine awp_seq ?_
    refine awp_region ?_
    refine r_assign rfl rfl ?_
    refine awl_nil ?_
    refine x_then ?_
    refine awp_ret ?_
    refine x_thenR ?_
    exact ⟨(.inl rfl), _, [], (.one (by first | exact .mk rfl rfl | exact .nil rfl)), ⟨rfl, by first | (rw [cmpIT, if_pos h1]; rfl) | (rw [cmpIT, if_neg h1, if_pos h2]; rfl) | (rw [cmpIT, if_neg h1, if_neg h2]; rfl)⟩, (List.nil_sublist _), (by simp)⟩
   ·
    have h1 : ¬ x < y := of_decide_eq_false hc3
    refine awp_skip ?_
    refine x_then ?_
    refine awp_seq ?_
    refine awp_seq ?_
    refine awp_region ?_
    refine r_move rfl rfl ?_
    refine r_move rfl rfl ?_
    refine r_cmp rfl rfl rfl rfl ?_
    refine awl_nil ?_
    refine x_then ?_
    refine awp_cond rfl (fun hc4 => ?_) (fun hc4 => ?_)
    ·
     have h2 : y < x := of_decide_eq_true hc4
     refine awp_seq ?_
     refine awp_region ?_
     refine r_assign rfl rfl ?_
     refine awl_nil ?_
     refine x_then ?_
     refine awp_ret ?_
     refine x_thenR ?_
     exact ⟨(.inl rfl), _, [], (.one (by first | exact .mk rfl rfl | exact .nil rfl)), ⟨rfl, by first | (rw [cmpIT, if_pos h1]; rfl) | (rw [cmpIT, if_neg h1, if_pos h2]; rfl) | (rw [cmpIT, if_neg h1, if_neg h2]; rfl)⟩, (List.nil_sublist _), (by simp)⟩
    ·
     have h2 : ¬ y < x := of_decide_eq_false hc4
     refine awp_skip ?_
     refine x_then ?_
     refine awp_seq ?_
     refine awp_region ?_
     refine r_assign rfl rfl ?_
     refine awl_nil ?_
     refine x_then ?_
     refine awp_ret ?_
     exact ⟨(.inl rfl), _, [], (.one (by first | exact .mk rfl rfl | exact .nil rfl)), ⟨rfl, by first | (rw [cmpIT, if_pos h1]; rfl) | (rw [cmpIT, if_neg h1, if_pos h2]; rfl) | (rw [cmpIT, if_neg h1, if_neg h2]; rfl)⟩, (List.nil_sublist _), (by simp)⟩
theorem isNaN_uint64_q (x : Int) : ACq Try.prog 92 [.v (.int .u64 x)] [] (fun r n => n = [] ∧ r = boolA false) := by
 refine acq_of_awp (rs := [2]) (nt := 6) Try.func92 rfl rfl rfl rfl (fun w0 C0 hq => ?_)
 refine awp_seq ?_
 refine awp_region ?_
 refine r_assign rfl rfl ?_
 refine awl_nil ?_
 refine x_then ?_
 refine awp_seq ?_
 refine awp_region ?_
 refine r_move rfl rfl ?_
 refine r_move rfl rfl ?_
 refine r_cmp rfl rfl rfl rfl ?_
 refine r_assign rfl rfl ?_
 refine awl_nil ?_
 refine x_then ?_
 refine awp_ret ?_
 exact ⟨(.inl rfl), _, [], (.one (by first | exact .mk rfl rfl | exact .nil rfl)), ⟨rfl, by first | rfl | (simp [boolA]; rfl)⟩, (List.nil_sublist _), (by simp)⟩
theorem cmpU_ok_q (x y : Int) : ACq Try.prog 78 [.v (.int .u64 x), .v (.int .u64 y)] [] (fun r n => n = [] ∧ r = .v (.int .i64 (cmpIT x y))) := by
 refine acq_of_awp (rs := [4]) (nt := 20) Try.func78 rfl rfl rfl rfl (fun w0 C0 hq => ?_)
 refine awp_seq ?_
 refine awp_region ?_
 refine r_assign rfl rfl ?_
 refine awl_nil ?_
 refine x_then ?_
 refine awp_seq ?_
 refine awp_region ?_
 refine r_move rfl rfl ?_
 refine r_callq0 rfl rfl (.cons (.ev rfl rfl) .nil) (isNaN_uint64_q x) rfl TF.en92 rfl (fun r hr => ?_)
 obtain rfl := hr
 refine r_assign rfl rfl ?_
 refine awl_nil ?_
 refine x_then ?_
 refine awp_seq ?_
 refine awp_region ?_
 refine r_move rfl rfl ?_
 refine r_callq0 rfl rfl (.cons (.ev rfl rfl) .nil) (isNaN_uint64_q y) rfl TF.en92 rfl (fun r hr => ?_)
 obtain rfl := hr
 refine r_assign rfl rfl ?_
 refine awl_nil ?_
 refine x_then ?_
 refine awp_seq ?_
 refine awp_seq ?_
 refine awp_region ?_
 refine r_move rfl rfl ?_
 refine awl_nil ?_
 refine x_then ?_
 refine awp_cond rfl (fun hc0 => ?_) (fun hc0 => ?_)
 ·
  cases hc0
 ·
  refine awp_skip ?_
  refine x_then ?_
  refine awp_seq ?_
  refine awp_seq ?_
  refine awp_region ?_
  refine r_move rfl rfl ?_
  refine awl_nil ?_
  refine x_then ?_
  refine awp_cond rfl (fun hc2 => ?_) (fun hc2 => ?_)
  ·
   cases hc2
  ·
   refine awp_skip ?_
   refine x_then ?_
   refine awp_seq ?_
   refine awp_seq ?_
   refine awp_region ?_
   refine r_move rfl rfl ?_
   refine r_move rfl rfl ?_
   refine r_cmp rfl rfl rfl rfl ?_
   refine awl_nil ?_
   refine x_then ?_
   refine awp_cond rfl (fun hc3 => ?_) (fun hc3 => ?_)
   ·
    have h1 : x < y := of_decide_eq_true hc3
    refine awp_seq ?_
    refine awp_region ?_
    refine r_assign rfl rfl ?_
    refine awl_nil ?_
    refine x_then ?_
    refine awp_ret ?_
    refine x_thenR ?_
    exact ⟨(.inl rfl), _, [], (.one (by first | exact .mk rfl rfl | exact .nil rfl)), ⟨rfl, by first | (rw [cmpIT, if_pos h1]; rfl) | (rw [cmpIT, if_neg h1, if_pos h2]; rfl) | (rw [cmpIT, if_neg h1, if_neg h2]; rfl)⟩, (List.nil_sublist _), (by simp)⟩
   ·
    have h1 : ¬ x < y := of_decide_eq_false hc3
    refine awp_skip ?_
    refine x_then ?_
    refine awp_seq ?_
    refine awp_seq ?_
    refine awp_region ?_
    refine r_move rfl rfl ?_
    refine r_move rfl rfl ?_
    refine r_cmp rfl rfl rfl rfl ?_
    refine awl_nil ?_
    refine x_then ?_
    refine awp_cond rfl (fun hc4 => ?_) (fun hc4 => ?_)
    ·
     have h2 : y < x := of_decide_eq_true hc4
     refine awp_seq ?_
     refine awp_region ?_
     refine r_assign rfl rfl ?_
     refine awl_nil ?_
     refine x_then ?_
     refine awp_ret ?_
     refine x_thenR ?_
     exact ⟨(.inl rfl), _, [], (.one (by first | exact .mk rfl rfl | exact .nil rfl)), ⟨rfl, by first | (rw [cmpIT, if_pos h1]; rfl) | (rw [cmpIT, if_neg h1, if_pos h2]; rfl) | (rw [cmpIT, if_neg h1, if_neg h2]; rfl)⟩, (List.nil_sublist _), (by simp)⟩
    ·
     have h2 : ¬ y < x := of_decide_eq_false hc4
     refine awp_skip ?_
     refine x_then ?_
     refine awp_seq ?_
     refine awp_region ?_
     refine r_assign rfl rfl ?_
     refine awl_nil ?_
     refine x_then ?_
     refine awp_ret ?_
     exact ⟨(.inl rfl), _, [], (.one (by first | exact .mk rfl rfl | exact .nil rfl)), ⟨rfl, by first | (rw [cmpIT, if_pos h1]; rfl) | (rw [cmpIT, if_neg h1, if_pos h2]; rfl) | (rw [cmpIT, if_neg h1, if_neg h2]; rfl)⟩, (List.nil_sublist _), (by simp)⟩
theorem or_ok_q (l : List Int) (hl : l.length ≤ 1000) : ACq Try.prog 77 [.sl 1 (l.map i64c)] [] (fun r n => n = [] ∧ r = .v (.int .i64 (orI l))) := by
 refine acq_of_awp (rs := [2]) (nt := 18) Try.func77 rfl rfl rfl rfl (fun w0 C0 hq => ?_)
 refine awp_seq ?_
 refine awp_region ?_
 refine r_assign rfl rfl ?_
 refine awl_nil ?_
 refine x_then ?_
 refine awp_seq ?_
 refine awp_region ?_
 refine r_assign rfl rfl ?_
 refine awl_nil ?_
 refine x_then ?_
 refine awp_seq ?_
 refine awp_seq ?_
 refine awp_region ?_
 refine r_move rfl rfl ?_
 first | (refine r_lenS rfl rfl TF.sl123 rfl ?_) | (refine r_lenNil rfl TF.sl123 rfl ?_) | (refine r_lenV rfl TF.sl123 rfl ?_)
 refine r_move rfl rfl ?_
 refine awl_nil ?_
 refine x_then ?_
 refine awp_block ?_
 refine awp_loop (fun nn0 S => ∃ k : Nat, S = ⟨18, [(3, .a (.v (.int .i64 (0)))), (6, .a (.sl 1 (l.map i64c))), (7, .a (.v (.int .i64 (((l.map i64c).length : Nat))))), (8, .a (.v (.int .i64 ((k : Int)))))], []⟩ ∧ nn0 = l.length - k ∧ (k ≤ l.length) ∧ (∀ j, j < k → ∀ y, l[j]? = some y → y = 0)) (l.length - (0)) ⟨18, [(3, .a (.v (.int .i64 (0)))), (6, .a (.sl 1 (l.map i64c))), (7, .a (.v (.int .i64 (((l.map i64c).length : Nat))))), (8, .a (.v (.int .i64 (((0) : Int)))))], []⟩ ⟨rfl, (Slots.cons rfl (by first | exact .refl _ | exact .nilOwn _ _ | exact .nilSl _ | exact .ownSl _ _ _  | exact SV.le.of_eq (by simp)) (Slots.cons rfl (by first | exact .refl _ | exact .nilOwn _ _ | exact .nilSl _ | exact .ownSl _ _ _  | exact SV.le.of_eq (by simp)) (Slots.cons rfl (by first | exact .refl _ | exact .nilOwn _ _ | exact .nilSl _ | exact .ownSl _ _ _  | exact SV.le.of_eq (by simp)) (Slots.cons rfl (by first | exact .refl _ | exact .nilOwn _ _ | exact .nilSl _ | exact .ownSl _ _ _  | exact SV.le.of_eq (by simp)) Slots.nil)))), (by first | exact List.Sublist.refl _ | exact .cons_cons _ (.cons _ (.refl _)) | exact List.nil_sublist _ | exact .cons _ (.refl _) | exact .cons _ (.cons _ (.refl _)) | exact .cons _ (.cons _ (.cons _ (.refl _))) | exact .cons _ (.cons _ (.cons _ (.cons _ (.refl _)))) | exact .cons_cons _ (List.nil_sublist _))⟩ ⟨0, rfl, rfl, Nat.zero_le _, (fun j h => by omega)⟩ ?_
 rintro nn0 _ ⟨k, rfl, rfl, hk, hz⟩
 refine awp_seq ?_
 refine awp_region ?_
 refine r_cmp rfl rfl rfl rfl ?_
 refine awl_nil ?_
 refine x_then ?_
 refine awp_seq ?_
 refine awp_cond rfl (fun hc0 => ?_) (fun hc0 => ?_)
 ·
  have hltx : k < l.length := by have := of_decide_eq_true hc0; simpa using this
  obtain ⟨x, hx⟩ := get_lt hltx
  refine awp_skip ?_
  refine x_then ?_
  refine awp_seq ?_
  refine awp_block ?_
  refine awp_seq ?_
  refine awp_region ?_
  refine r_index rfl rfl rfl TF.sl123 TF.sz3 (by omega) (get_map hx) rfl ?_
  refine r_load1 rfl TF.agg3 rfl ?_
  refine r_assign rfl rfl ?_
  refine awl_nil ?_
  refine x_then ?_
  refine awp_seq ?_
  refine awp_region ?_
  refine r_move rfl rfl ?_
  refine r_move rfl rfl ?_
  refine r_cmp rfl rfl rfl rfl ?_
  refine awl_nil ?_
  refine x_then ?_
  refine awp_cond rfl (fun hc1 => ?_) (fun hc1 => ?_)
  ·
   have h0 : x ≠ 0 := by simpa using hc1
   have hor := orI_hit hx hz h0
   refine awp_seq ?_
   refine awp_region ?_
   refine r_move rfl rfl ?_
   refine r_assign rfl rfl ?_
   refine awl_nil ?_
   refine x_then ?_
   refine awp_ret ?_
   refine x_blockR ?_
   refine x_thenR ?_
   refine x_thenR ?_
   refine x_blockR ?_
   refine x_thenR ?_
   exact ⟨(.inl rfl), _, [], (.one (by first | exact .mk rfl rfl | exact .nil rfl)), ⟨rfl, by rw [hor]; rfl⟩, (List.nil_sublist _), (by simp)⟩
  ·
   have h0 : x = 0 := by simpa using hc1
   refine awp_skip ?_
   refine x_block ?_
   refine x_then ?_
   refine awp_region ?_
   refine r_ari _ rfl rfl rfl (wrap_id (by first | omega | (simp; omega))) rfl ?_
   refine r_move rfl rfl ?_
   refine awl_nil ?_
   refine x_then ?_
   refine ⟨l.length - (k + 1), ⟨18, [(3, .a (.v (.int .i64 (0)))), (6, .a (.sl 1 (l.map i64c))), (7, .a (.v (.int .i64 (((l.map i64c).length : Nat))))), (8, .a (.v (.int .i64 (((k + 1) : Int)))))], []⟩, ⟨rfl, (Slots.cons rfl (by first | exact .refl _ | exact .nilOwn _ _ | exact .nilSl _ | exact .ownSl _ _ _  | exact SV.le.of_eq (by simp)) (Slots.cons rfl (by first | exact .refl _ | exact .nilOwn _ _ | exact .nilSl _ | exact .ownSl _ _ _  | exact SV.le.of_eq (by simp)) (Slots.cons rfl (by first | exact .refl _ | exact .nilOwn _ _ | exact .nilSl _ | exact .ownSl _ _ _  | exact SV.le.of_eq (by simp)) (Slots.cons rfl (by first | exact .refl _ | exact .nilOwn _ _ | exact .nilSl _ | exact .ownSl _ _ _  | exact SV.le.of_eq (by simp)) Slots.nil)))), (by first | exact List.Sublist.refl _ | exact .cons_cons _ (.cons _ (.refl _)) | exact List.nil_sublist _ | exact .cons _ (.refl _) | exact .cons _ (.cons _ (.refl _)) | exact .cons _ (.cons _ (.cons _ (.refl _))) | exact .cons _ (.cons _ (.cons _ (.cons _ (.refl _)))) | exact .cons_cons _ (List.nil_sublist _))⟩, (by omega), ⟨k + 1, rfl, rfl, (by omega), (fun j hj y hy => by rcases Nat.lt_succ_iff_lt_or_eq.1 hj with h | h; exact hz j h y hy; subst h; rw [hx] at hy; cases hy; exact h0)⟩⟩
 ·
  have hge : l.length ≤ k := by have := of_decide_eq_false hc0; simp at this; omega
  have hor := orI_none (l := l) (fun j hj => hz j (by omega))
  refine awp_exit ?_
  refine x_thenE ?_
  refine x_thenE ?_
  refine x_blockE ?_
  refine x_then ?_
  refine awp_seq ?_
  refine awp_region ?_
  refine r_move rfl rfl ?_
  refine r_assign rfl rfl ?_
  refine awl_nil ?_
  refine x_then ?_
  refine awp_ret ?_
  exact ⟨(.inl rfl), _, [], (.one (by first | exact .mk rfl rfl | exact .nil rfl)), ⟨rfl, by rw [hor]; rfl⟩, (List.nil_sublist _), (by simp)⟩
theorem order_ok_q (p q : Sp) : ACq Try.prog 64 [spA p, spA q] [] (fun r n => n = [] ∧ r = .v (.int .i64 (p.ord q))) := by
 refine acq_of_awp (rs := [4]) (nt := 33) Try.func64 rfl rfl rfl rfl (fun w0 C0 hq => ?_)
 refine awp_seq ?_
 refine awp_region ?_
 refine r_box rfl rfl rfl (fun b2 => ?_)
 refine r_box rfl rfl rfl (fun b3 => ?_)
 first | refine awl_imp (imp_commit 0 3 rfl rfl rfl rfl) (awl_imp (imp_commit 0 2 rfl rfl rfl rfl) ?_) | skip
 refine r_assign rfl rfl ?_
 refine awl_nil ?_
 refine x_then ?_
 refine awp_seq ?_
 refine awp_any (fun B S => ∃ b5 : Nat, ∃ b6 : Nat, ∃ sl : List (Nat × SV), S = ⟨33, sl, (cond (B 5) [⟨b6, true, .box (cond (B 7) (q.cs.take 3) [.v (.int .i64 0), .v (.int .i64 0), .v (.int .i64 0)])⟩] [] ++ cond (B 4) [⟨b5, true, .box (cond (B 6) (p.cs.take 3) [.v (.int .i64 0), .v (.int .i64 0), .v (.int .i64 0)])⟩] [])⟩ ∧ find 2 sl = some (.a (.cp (p.cs))) ∧ find 3 sl = some (.a (.cp (q.cs))) ∧ (B 0 = true → find 7 sl = some (.a (.cp (p.cs)))) ∧ (B 1 = true → find 8 sl = some (.a (.agg (p.cs.take 3)))) ∧ (B 2 = true → find 9 sl = some (.a (.cp (q.cs)))) ∧ (B 3 = true → find 10 sl = some (.a (.agg (q.cs.take 3)))) ∧ (B 4 = true → find 5 sl = some (.a (.v (.pointer (some ⟨b5, 0, none⟩))))) ∧ (B 5 = true → find 6 sl = some (.a (.v (.pointer (some ⟨b6, 0, none⟩)))))) TF.mixed rfl ⟨0, 0, _, rfl, rfl, rfl, (fun h => by cases h), (fun h => by cases h), (fun h => by cases h), (fun h => by cases h), (fun h => by cases h), (fun h => by cases h)⟩ ⟨⟨⟨⟨⟨⟨⟨⟨trivial
  , ⟨_, rfl, fun B S hBi hdep hcl => by
    rintro ⟨b5, b6, sl, rfl, h2, h3, f0, f1, f2, f3, f4, f5⟩
    first | (refine r_fieldcp h2 TF.f73_0 TF.sz47 rfl ?_) | (refine r_fieldpt h2 TF.f73_0 TF.sz47 rfl ?_) | (refine r_fieldb h2 TF.f73_0 TF.sz47 rfl ?_)
    exact awl_nil ⟨rfl, b5, b6, _, rfl, h2, h3, (fun h => rfl), f1, f2, f3, f4, f5⟩⟩⟩
  , ⟨_, rfl, fun B S hBi hdep hcl => by
    rintro ⟨b5, b6, sl, rfl, h2, h3, f0, f1, f2, f3, f4, f5⟩
    first | (refine r_loadA (f0 (hdep 0 rfl)) TF.agg47 TF.sz47 rfl rfl ?_) | (refine r_loadAb 0 (f0 (hdep 0 rfl)) rfl TF.agg47 TF.sz47 rfl rfl ?_) | (refine r_loadAb 1 (f0 (hdep 0 rfl)) rfl TF.agg47 TF.sz47 rfl rfl ?_)
    exact awl_nil ⟨rfl, b5, b6, _, rfl, h2, h3, f0, (fun h => rfl), f2, f3, f4, f5⟩⟩⟩
  , ⟨_, rfl, fun B S hBi hdep hcl => by
    rintro ⟨b5, b6, sl, rfl, h2, h3, f0, f1, f2, f3, f4, f5⟩
    first | (refine r_fieldcp h3 TF.f73_0 TF.sz47 rfl ?_) | (refine r_fieldpt h3 TF.f73_0 TF.sz47 rfl ?_) | (refine r_fieldb h3 TF.f73_0 TF.sz47 rfl ?_)
    exact awl_nil ⟨rfl, b5, b6, _, rfl, h2, h3, f0, f1, (fun h => rfl), f3, f4, f5⟩⟩⟩
  , ⟨_, rfl, fun B S hBi hdep hcl => by
    rintro ⟨b5, b6, sl, rfl, h2, h3, f0, f1, f2, f3, f4, f5⟩
    first | (refine r_loadA (f2 (hdep 2 rfl)) TF.agg47 TF.sz47 rfl rfl ?_) | (refine r_loadAb 0 (f2 (hdep 2 rfl)) rfl TF.agg47 TF.sz47 rfl rfl ?_) | (refine r_loadAb 1 (f2 (hdep 2 rfl)) rfl TF.agg47 TF.sz47 rfl rfl ?_)
    exact awl_nil ⟨rfl, b5, b6, _, rfl, h2, h3, f0, f1, f2, (fun h => rfl), f4, f5⟩⟩⟩
  , ⟨_, rfl, fun B S hBi hdep hcl => by
    rintro ⟨b5, b6, sl, rfl, h2, h3, f0, f1, f2, f3, f4, f5⟩
    have n5 : B 6 = false := by cases h : B 6 with | false => rfl | true => exact absurd (hcl 6 4 h rfl) (by rw [hBi]; decide)
    refine r_alloc TF.zero47 rfl (fun b => ?_)
    refine awl_imp (imp_perm (objs := cond (B 5) [⟨b6, true, .box (cond (B 7) (q.cs.take 3) [.v (.int .i64 0), .v (.int .i64 0), .v (.int .i64 0)])⟩] [] ++ [⟨b, true, .box [.v (.int .i64 0), .v (.int .i64 0), .v (.int .i64 0)]⟩]) (by rw [hBi]; cases B 5 <;> (first | exact List.Perm.refl _ | exact List.Perm.swap _ _ _))) ?_
    exact awl_nil ⟨rfl, b, b6, ((5, .a (.v (.pointer (some ⟨b, 0, none⟩)))) :: sl), (by show _ = (⟨33, _, cond (B 5) _ _ ++ [⟨b, true, .box (cond (B 6) _ _)⟩]⟩ : AState); rw [n5]; rfl), h2, h3, f0, f1, f2, f3, (fun h => rfl), f5⟩⟩⟩
  , ⟨_, rfl, fun B S hBi hdep hcl => by
    rintro ⟨b5, b6, sl, rfl, h2, h3, f0, f1, f2, f3, f4, f5⟩
    have n6 : B 7 = false := by cases h : B 7 with | false => rfl | true => exact absurd (hcl 7 5 h rfl) (by rw [hBi]; decide)
    refine r_alloc TF.zero47 rfl (fun b => ?_)
    refine awl_imp (imp_perm (objs := ⟨b, true, .box [.v (.int .i64 0), .v (.int .i64 0), .v (.int .i64 0)]⟩ :: cond (B 4) [⟨b5, true, .box (cond (B 6) (p.cs.take 3) [.v (.int .i64 0), .v (.int .i64 0), .v (.int .i64 0)])⟩] []) (by rw [hBi]; exact List.Perm.refl _)) ?_
    exact awl_nil ⟨rfl, b5, b, ((6, .a (.v (.pointer (some ⟨b, 0, none⟩)))) :: sl), (by show _ = (⟨33, _, [⟨b, true, .box (cond (B 7) _ _)⟩] ++ _⟩ : AState); rw [n6]; rfl), h2, h3, f0, f1, f2, f3, f4, (fun h => rfl)⟩⟩⟩
  , ⟨_, rfl, fun B S hBi hdep hcl => by
    rintro ⟨b5, b6, sl, rfl, h2, h3, f0, f1, f2, f3, f4, f5⟩
    have e5 : B 4 = true := hdep 4 rfl
    have e6 : B 5 = true := hdep 5 rfl
    rw [e5, e6, hBi]
    refine r_store 1 (f4 e5) rfl (f1 (hdep 1 rfl)) TF.sz47 rfl rfl rfl ?_
    exact awl_nil ⟨rfl, b5, b6, _, (by show _ = (⟨33, _, cond (B 5) [⟨b6, true, .box (cond (B 7) _ _)⟩] [] ++ cond (B 4) [⟨b5, true, .box (cond true _ _)⟩] []⟩ : AState); rw [e5, e6]; rfl), h2, h3, f0, f1, f2, f3, f4, f5⟩⟩⟩
  , ⟨_, rfl, fun B S hBi hdep hcl => by
    rintro ⟨b5, b6, sl, rfl, h2, h3, f0, f1, f2, f3, f4, f5⟩
    have e5 : B 4 = true := hdep 4 rfl
    have e6 : B 5 = true := hdep 5 rfl
    have e7 : B 6 = true := hdep 6 rfl
    rw [e5, e6, e7, hBi]
    refine r_store 0 (f5 e6) rfl (f3 (hdep 3 rfl)) TF.sz47 rfl rfl rfl ?_
    exact awl_nil ⟨rfl, b5, b6, _, (by show _ = (⟨33, _, cond (B 5) [⟨b6, true, .box (cond true _ _)⟩] [] ++ cond (B 4) [⟨b5, true, .box (cond (B 6) _ _)⟩] []⟩ : AState); rw [e5, e6, e7]; rfl), h2, h3, f0, f1, f2, f3, f4, f5⟩⟩⟩
  (fun B S hall => by
   rintro ⟨b5, b6, sl, rfl, h2, h3, f0, f1, f2, f3, f4, f5⟩
   rw [hall 4 (by decide), hall 5 (by decide), hall 6 (by decide), hall 7 (by decide)]
   refine x_then ?_
   refine awp_weaken (S' := ⟨33, [(2, .a (.cp (p.cs))), (3, .a (.cp (q.cs))), (5, .a (.v (.pointer (some ⟨b5, 0, none⟩)))), (6, .a (.v (.pointer (some ⟨b6, 0, none⟩))))], [⟨b6, true, .box (q.cs.take 3)⟩, ⟨b5, true, .box (p.cs.take 3)⟩]⟩) ⟨rfl, (Slots.cons h2 (.refl _) (Slots.cons h3 (.refl _) (Slots.cons (f4 (hall 4 (by decide))) (.refl _) (Slots.cons (f5 (hall 5 (by decide))) (.refl _) Slots.nil)))), (List.Sublist.refl _)⟩ ?_
   refine awp_seq ?_
   refine awp_imp (imp_commit 0 6 rfl rfl rfl rfl) ?_
   refine awp_imp (imp_commit 0 5 rfl rfl rfl rfl) ?_
   refine awp_drawS [11, 12, 13, 14, 15, 16, 17, 18, 19, 20, 21, 22, 23, 24, 25, 26, 27, 28, 29] [_, _, _, _, _, _, _, _, _, _, _, _, _, _, _, _, _, _, _] [] [] TF.mixed rfl rfl rfl ⟨⟨⟨⟨⟨⟨⟨⟨⟨⟨⟨⟨⟨⟨⟨⟨⟨⟨⟨trivial
    , ⟨_, rfl, fun sl hd hr ho => by
      first | (refine r_fieldcp (hr 5 _ rfl rfl rfl) TF.f47_0 TF.sz3 rfl ?_) | (refine r_fieldpt (hr 5 _ rfl rfl rfl) TF.f47_0 TF.sz3 rfl ?_) | (refine r_fieldb (hr 5 _ rfl rfl rfl) TF.f47_0 TF.sz3 rfl ?_)
      exact awl_nil ⟨rfl, post_put⟩⟩⟩
    , ⟨_, rfl, fun sl hd hr ho => by
      first | (refine r_load1 (hd 0 _ rfl rfl rfl) TF.agg3 rfl ?_) | (refine r_load1b 0 (hd 0 _ rfl rfl rfl) rfl rfl TF.agg3 rfl ?_) | (refine r_load1b 1 (hd 0 _ rfl rfl rfl) rfl rfl TF.agg3 rfl ?_)
      exact awl_nil ⟨rfl, post_put⟩⟩⟩
    , ⟨_, rfl, fun sl hd hr ho => by
      first | (refine r_fieldcp (hr 6 _ rfl rfl rfl) TF.f47_0 TF.sz3 rfl ?_) | (refine r_fieldpt (hr 6 _ rfl rfl rfl) TF.f47_0 TF.sz3 rfl ?_) | (refine r_fieldb (hr 6 _ rfl rfl rfl) TF.f47_0 TF.sz3 rfl ?_)
      exact awl_nil ⟨rfl, post_put⟩⟩⟩
    , ⟨_, rfl, fun sl hd hr ho => by
      first | (refine r_load1 (hd 2 _ rfl rfl rfl) TF.agg3 rfl ?_) | (refine r_load1b 0 (hd 2 _ rfl rfl rfl) rfl rfl TF.agg3 rfl ?_) | (refine r_load1b 1 (hd 2 _ rfl rfl rfl) rfl rfl TF.agg3 rfl ?_)
      exact awl_nil ⟨rfl, post_put⟩⟩⟩
    , ⟨_, rfl, fun sl hd hr ho => by
      refine r_callq0 rfl rfl (.cons (.ev (hd 1 _ rfl rfl rfl) rfl) (.cons (.ev (hd 3 _ rfl rfl rfl) rfl) .nil)) (cmpI_ok_q _ _) rfl TF.en63 rfl (fun r hr => ?_)
      obtain rfl := hr
      exact awl_nil ⟨rfl, post_put⟩⟩⟩
    , ⟨_, rfl, fun sl hd hr ho => by
      first | (refine r_fieldcp (hr 5 _ rfl rfl rfl) TF.f47_1 TF.sz3 rfl ?_) | (refine r_fieldpt (hr 5 _ rfl rfl rfl) TF.f47_1 TF.sz3 rfl ?_) | (refine r_fieldb (hr 5 _ rfl rfl rfl) TF.f47_1 TF.sz3 rfl ?_)
      exact awl_nil ⟨rfl, post_put⟩⟩⟩
    , ⟨_, rfl, fun sl hd hr ho => by
      first | (refine r_load1 (hd 5 _ rfl rfl rfl) TF.agg3 rfl ?_) | (refine r_load1b 0 (hd 5 _ rfl rfl rfl) rfl rfl TF.agg3 rfl ?_) | (refine r_load1b 1 (hd 5 _ rfl rfl rfl) rfl rfl TF.agg3 rfl ?_)
      exact awl_nil ⟨rfl, post_put⟩⟩⟩
    , ⟨_, rfl, fun sl hd hr ho => by
      first | (refine r_fieldcp (hr 6 _ rfl rfl rfl) TF.f47_1 TF.sz3 rfl ?_) | (refine r_fieldpt (hr 6 _ rfl rfl rfl) TF.f47_1 TF.sz3 rfl ?_) | (refine r_fieldb (hr 6 _ rfl rfl rfl) TF.f47_1 TF.sz3 rfl ?_)
      exact awl_nil ⟨rfl, post_put⟩⟩⟩
    , ⟨_, rfl, fun sl hd hr ho => by
      first | (refine r_load1 (hd 7 _ rfl rfl rfl) TF.agg3 rfl ?_) | (refine r_load1b 0 (hd 7 _ rfl rfl rfl) rfl rfl TF.agg3 rfl ?_) | (refine r_load1b 1 (hd 7 _ rfl rfl rfl) rfl rfl TF.agg3 rfl ?_)
      exact awl_nil ⟨rfl, post_put⟩⟩⟩
    , ⟨_, rfl, fun sl hd hr ho => by
      refine r_callq0 rfl rfl (.cons (.ev (hd 6 _ rfl rfl rfl) rfl) (.cons (.ev (hd 8 _ rfl rfl rfl) rfl) .nil)) (cmpI_ok_q _ _) rfl TF.en63 rfl (fun r hr => ?_)
      obtain rfl := hr
      exact awl_nil ⟨rfl, post_put⟩⟩⟩
    , ⟨_, rfl, fun sl hd hr ho => by
      first | (refine r_fieldcp (hr 5 _ rfl rfl rfl) TF.f47_2 TF.sz3 rfl ?_) | (refine r_fieldpt (hr 5 _ rfl rfl rfl) TF.f47_2 TF.sz3 rfl ?_) | (refine r_fieldb (hr 5 _ rfl rfl rfl) TF.f47_2 TF.sz3 rfl ?_)
      exact awl_nil ⟨rfl, post_put⟩⟩⟩
    , ⟨_, rfl, fun sl hd hr ho => by
      first | (refine r_load1 (hd 10 _ rfl rfl rfl) TF.agg3 rfl ?_) | (refine r_load1b 0 (hd 10 _ rfl rfl rfl) rfl rfl TF.agg3 rfl ?_) | (refine r_load1b 1 (hd 10 _ rfl rfl rfl) rfl rfl TF.agg3 rfl ?_)
      exact awl_nil ⟨rfl, post_put⟩⟩⟩
    , ⟨_, rfl, fun sl hd hr ho => by
      first | (refine r_fieldcp (hr 6 _ rfl rfl rfl) TF.f47_2 TF.sz3 rfl ?_) | (refine r_fieldpt (hr 6 _ rfl rfl rfl) TF.f47_2 TF.sz3 rfl ?_) | (refine r_fieldb (hr 6 _ rfl rfl rfl) TF.f47_2 TF.sz3 rfl ?_)
      exact awl_nil ⟨rfl, post_put⟩⟩⟩
    , ⟨_, rfl, fun sl hd hr ho => by
      first | (refine r_load1 (hd 12 _ rfl rfl rfl) TF.agg3 rfl ?_) | (refine r_load1b 0 (hd 12 _ rfl rfl rfl) rfl rfl TF.agg3 rfl ?_) | (refine r_load1b 1 (hd 12 _ rfl rfl rfl) rfl rfl TF.agg3 rfl ?_)
      exact awl_nil ⟨rfl, post_put⟩⟩⟩
    , ⟨_, rfl, fun sl hd hr ho => by
      refine r_callq0 rfl rfl (.cons (.ev (hd 11 _ rfl rfl rfl) rfl) (.cons (.ev (hd 13 _ rfl rfl rfl) rfl) .nil)) (cmpI_ok_q _ _) rfl TF.en63 rfl (fun r hr => ?_)
      obtain rfl := hr
      exact awl_nil ⟨rfl, post_put⟩⟩⟩
    , ⟨_, rfl, fun sl hd hr ho => by
      first | (refine r_fieldcp (hr 2 _ rfl rfl rfl) TF.f73_1 TF.sz31 rfl ?_) | (refine r_fieldpt (hr 2 _ rfl rfl rfl) TF.f73_1 TF.sz31 rfl ?_) | (refine r_fieldb (hr 2 _ rfl rfl rfl) TF.f73_1 TF.sz31 rfl ?_)
      exact awl_nil ⟨rfl, post_put⟩⟩⟩
    , ⟨_, rfl, fun sl hd hr ho => by
      first | (refine r_load1 (hd 15 _ rfl rfl rfl) TF.agg31 rfl ?_) | (refine r_load1b 0 (hd 15 _ rfl rfl rfl) rfl rfl TF.agg31 rfl ?_) | (refine r_load1b 1 (hd 15 _ rfl rfl rfl) rfl rfl TF.agg31 rfl ?_)
      exact awl_nil ⟨rfl, post_put⟩⟩⟩
    , ⟨_, rfl, fun sl hd hr ho => by
      first | (refine r_fieldcp (hr 3 _ rfl rfl rfl) TF.f73_1 TF.sz31 rfl ?_) | (refine r_fieldpt (hr 3 _ rfl rfl rfl) TF.f73_1 TF.sz31 rfl ?_) | (refine r_fieldb (hr 3 _ rfl rfl rfl) TF.f73_1 TF.sz31 rfl ?_)
      exact awl_nil ⟨rfl, post_put⟩⟩⟩
    , ⟨_, rfl, fun sl hd hr ho => by
      first | (refine r_load1 (hd 17 _ rfl rfl rfl) TF.agg31 rfl ?_) | (refine r_load1b 0 (hd 17 _ rfl rfl rfl) rfl rfl TF.agg31 rfl ?_) | (refine r_load1b 1 (hd 17 _ rfl rfl rfl) rfl rfl TF.agg31 rfl ?_)
      exact awl_nil ⟨rfl, post_put⟩⟩⟩
    (by rfl) ?_
   refine r_callq0 rfl rfl (.cons (.ev rfl rfl) (.cons (.ev rfl rfl) .nil)) (cmpU_ok_q _ _) rfl TF.en78 rfl (fun r hr => ?_)
   obtain rfl := hr
   refine r_lit 31 (parts := [(0, .tmp 15), (1, .tmp 20), (2, .tmp 25), (3, .tmp 30)]) rfl TF.sl123 TF.sz3 TF.zraw3 rfl rfl rfl rfl rfl rfl rfl ?_
   refine r_callq0 rfl rfl (.cons (.ev rfl rfl) .nil) (or_ok_q [cmpIT p.br q.br, cmpIT p.vo q.vo, cmpIT p.bl q.bl, cmpIT p.nu q.nu] (by simp)) rfl TF.en77 rfl (fun r hr => ?_)
   obtain rfl := hr
   first | refine awl_imp (imp_commit 0 3 rfl rfl rfl rfl) (awl_imp (imp_commit 0 2 rfl rfl rfl rfl) ?_) | skip
   refine r_assign rfl rfl ?_
   refine awl_nil ?_
   refine x_then ?_
   refine awp_ret ?_
   exact ⟨(.inl rfl), _, [], (.one (by first | exact .mk rfl rfl | exact .nil rfl)), ⟨rfl, rfl⟩, (List.nil_sublist _), (by simp)⟩)
theorem order_okT (p q : Sp) : AC Try.prog 64 [spA p, spA q] [] (fun r n => n = [] ∧ r = .v (.int .i64 (p.ord q))) := (order_ok_q p q).ac
end Go.Proofs.Ytpkodkoooaldlaa.A
namespace Go.Proofs.Ytpkodkoooaldlaa.A
open Go Go.RowKit
set_option linter.unusedVariables false
set_option linter.unusedSimpArgs false
set_option linter.unusedSectionVars false
variable {P : Program} {w0 : Base} {C0 C : CS} {T : TS} {S S' : AState} {a : Act} {w : World} {ops : Array Oper} {rest : List Oper} {o : Oper} {Q : Exit → AState → Prop}
variable {t : Nat} {ty ty' : TypeId} {pos : String} {aft : Array Edge} {rn : Option Nat}
theorem awpi_ret (h : Q .ret S) : AWPI rn P w0 C0 .ret Q S := fun _ _ hs => wpIn_ret ⟨S, hs, h⟩
def YCs (Cs : CS) (P : Program) (l : Nat) (x : List AV) (wo : List OE) (R : Bool → List OE → Prop) : Prop :=
  ∀ (C : CS) (w : World) (vals : Array Value), (∀ b o v, Cs b o = some v → C b o = some v) → Com C w → Rels C x vals.toList → Objs C wo w →
    YieldAt Fence.wide 0 P l vals w (fun e w' => ∃ bb, e = .returned (.bool bb) ∧ ∃ C' nobjs, R bb nobjs ∧ BelowX w.heap.size (WB wo) w w' ∧ (∀ b o, b < w.heap.size → ¬ WB wo b → C' b o = C b o) ∧ Com C' w' ∧ Objs C' nobjs w' ∧ ∀ e ∈ nobjs, w.heap.size ≤ e.b ∨ WB wo e.b)
theorem YCs.tr {Cs : CS} {l : Nat} {x : List AV} {wo : List OE} {R : Bool → List OE → Prop} (h : YCs Cs P l x wo R) : YCs Cs P l x (Tr wo) R := by
  have e : WB (Tr wo) = WB wo := funext fun b => propext wb_tr
  intro C w vals h0 h1 h2 h3
  rw [e]
  exact h C w vals h0 h1 h2 h3.untr
def IterS (P : Program) (it : Nat) (caps : List AV) (rd : List OE) (A : List (List AV) → List AV → Prop) (G : List (List AV) → Prop) : Prop :=
  ∀ (l : Nat) (Cs : CS) (J D : List (List AV) → List OE → Prop), (∀ pre x wo, J pre wo → A pre x → YCs Cs P l x wo (fun bb n => if bb = true then J (pre ++ [x]) n else D (pre ++ [x]) n)) → ∀ wo, J [] wo →
    AWC Cs P it (.v (.func (.yield l) #[] #[]) :: caps) rd wo (fun _ nobjs => ∃ xs wo', nobjs = Tr wo' ∧ ((G xs ∧ J xs wo') ∨ D xs wo'))
theorem r_yieldS {x : Operand} {xs : List Operand} {xa : Array Operand} {tys : Array TypeId} {l : Nat} {args : List AV} {wo un : List OE} {R : Bool → List OE → Prop} (hq : w0.q = false) (mk : List OE → List OE) (hx : S.ev x = some (.a (.v (.func (.yield l) #[] #[])))) (hxa : xa = xs.toArray) (hargs : Args S xs args)
    (Cs : CS) (hcs : CsOk Cs w0 C0) (hy : YCs Cs P l args wo R) (hp : (Tr wo ++ un).Perm S.objs) (hmk : ∀ nobjs, (Tr nobjs ++ un).Perm (mk nobjs)) (ht : Nat.blt t S.nt = true)
    (hr : ∀ bb nobjs, R bb nobjs → AWLI none P w0 C0 ops rest Q (AState.put ⟨S.nt, S.slots, mk nobjs⟩ t (.a (.v (.bool bb))))) :
    AWLI none P w0 C0 ops (⟨some t, .call ⟨.value x, xa, tys⟩, ty, pos, aft, none⟩ :: rest) Q S := by
  rintro a w ⟨C, T, hs⟩
  subst hxa
  have hf := hs.evv hx
  have hap : (Tr wo ++ un).Pairwise (fun e e' => e.b ≠ e'.b) := (hp.pairwise_iff (fun h => fun e => h e.symm)).2 hs.apart
  have hobjs : Objs C (Tr wo) w := ⟨fun e he => by have := hs.objs e (hp.mem_iff.1 (List.mem_append.2 (.inl he))); exact ⟨this.1, this.2.1⟩, (List.pairwise_append.1 hap).1⟩
  obtain ⟨fn, tmps, assign, body, hrun, hround⟩ := hy.tr C w (xs.map a.eval).toArray (fun b o v hc => by obtain ⟨h1, h2, h3⟩ := hcs b o v hc; rw [hs.old b o h2 h3]; exact h1) ⟨hs.com, hs.one⟩ (by simpa using hargs.rels hs) hobjs
  have hexec : (execOp a.eval ⟨some t, .call ⟨.value x, xs.toArray, tys⟩, ty, pos, aft, none⟩).run P w = .ok (.round l fn tmps assign body) w := by
    simp [execOp, resolve, invoke, hf, Deferred.ofValue, Sem.run_bind, hrun]
  unfold wpListIn
  rw [if_pos (by simp [Region.wanted])]
  refine ⟨fun _ _ => trivial, ?_⟩
  rw [Oper.semAt_eq _ _ _ (fun c h => by cases h), hexec]
  refine ⟨fun h => by simp [Fr, Fence.wide] at h, RoundIn.mono hround ?_⟩
  rintro e w' ⟨bb, rfl, C', nobjs, hR, hb, hC, hcom, hn, hnb⟩
  have hs' := hs.calledW hp (fun e he => by obtain ⟨e0, _, rfl⟩ := List.mem_map.1 he; rfl) hb (fun h => by rw [hq] at h; cases h) hC hcom hn hnb
  have hperm := hmk nobjs
  have hs2 : SimC w0 C0 C' T ⟨S.nt, S.slots, mk nobjs⟩ a w' := ⟨hs'.below, hs'.com, hs'.one, hs'.old, fun e he => hs'.objs e (hperm.mem_iff.2 he), (hperm.pairwise_iff (fun h => fun e => h e.symm)).1 hs'.apart,
    fun t k hk => ⟨(hs'.toks t k hk).1, fun e he => (hs'.toks t k hk).2 e (hperm.mem_iff.2 he)⟩, hs'.tokne, hs'.size, hs'.slots, hs'.defers, hs'.dr⟩
  exact hr bb nobjs hR _ _ ⟨C', T, hs2.put ht (srel_v _)⟩
inductive Stop : Exit → Code → Prop
  | ret : Stop .ret .ret
  | exit (id : Nat) : Stop (.exit id) (.exit id)
def RoundS (P : Program) (S : AState) (ps : Array Tmp) (assign body : Code) (sl : List (Nat × SV)) (JU : List (List AV) → List OE → Prop) (JX : Code → List (List AV) → List OE → Prop) (A : List (List AV) → List AV → Prop) : Prop :=
  ∀ (l : Nat) (pre : List (List AV)) (x : List AV) (wo : List OE) (rec busy : Loop) (w0 : Base) (C0 : CS), w0.q = false → JU pre wo → A pre x →
    AWPI (some l) P w0 C0 assign (fun e S1 => e = .normal ∧ ∃ i, S1.objs[i]? = some ⟨l, true, .loop rec⟩ ∧
      AWPI (some l) P w0 C0 body (fun e S' => ∃ wo' : List OE, ((e = .normal ∧ JU (pre ++ [x]) wo') ∨ ∃ c, Stop e c ∧ JX c (pre ++ [x]) wo') ∧ (wo' ++ [(⟨l, true, .loop busy⟩ : OE)]).Sublist S'.objs ∧ ∀ e ∈ wo', e.rw = true) ⟨S1.nt, S1.slots, S1.objs.set i ⟨l, true, .loop busy⟩⟩)
      (putsP ps.toList x ⟨S.nt, sl, Tr wo ++ [⟨l, true, .loop rec⟩]⟩)
theorem round_ycs {ps : Array Tmp} {assign body : Code} {sl : List (Nat × SV)} {JU : List (List AV) → List OE → Prop} {JX : Code → List (List AV) → List OE → Prop} {A : List (List AV) → List AV → Prop} (hR : RoundS P S ps assign body sl JU JX A)
    {l fn : Nat} {tmps : Array Value} {D : Nat} {Cs : CS} {Ts : TS} (hsz : tmps.size = S.nt) (hps : ps.toList.all (fun p => Nat.blt p S.nt) = true) (hA : ∀ pre x, A pre x → x.length = ps.size) (hpl : sl.all (fun p => p.2.plain) = true)
    (hsl : ∀ t x, find t sl = some x → SRel Cs Ts x (tmps.getD t undef)) :
    ∀ pre x wo, JU pre wo → A pre x → ∀ (C : CS) (w : World) (vals : Array Value), Com C w → Rels C x vals.toList → Objs C (⟨l, true, .loop ⟨.ready, none, fn, tmps, ps, assign, body, D⟩⟩ :: wo) w → (∀ b o v, Cs b o = some v → C b o = some v) →
      YieldAt Fence.wide 0 P l vals w (fun e w' => ∃ (pe : Option Code) (C' : CS) (wo' : List OE), e = .returned (.bool pe.isNone) ∧ (match pe with | none => JU (pre ++ [x]) wo' | some c => JX c (pre ++ [x]) wo') ∧ BelowX w.heap.size (WB (⟨l, true, .loop ⟨.ready, none, fn, tmps, ps, assign, body, D⟩⟩ :: wo)) w w' ∧
        (∀ b o, b < w.heap.size → ¬ WB (⟨l, true, .loop ⟨.ready, none, fn, tmps, ps, assign, body, D⟩⟩ :: wo) b → C' b o = C b o) ∧ Com C' w' ∧ Objs C' (⟨l, true, .loop ⟨if pe.isNone then .ready else .done, pe, fn, tmps, ps, assign, body, D⟩⟩ :: wo') w' ∧
        ∀ e ∈ (⟨l, true, .loop ⟨if pe.isNone then .ready else .done, pe, fn, tmps, ps, assign, body, D⟩⟩ :: wo' : List OE), w.heap.size ≤ e.b ∨ WB (⟨l, true, .loop ⟨.ready, none, fn, tmps, ps, assign, body, D⟩⟩ :: wo) e.b) := by
  intro pre x wo hj hax C w vals hcom hrel hobjs hmono
  have hl : w.heap[l]? = some (.loop ⟨.ready, none, fn, tmps, ps, assign, body, D⟩) := (hobjs.1 ⟨l, true, .loop ⟨.ready, none, fn, tmps, ps, assign, body, D⟩⟩ List.mem_cons_self).1
  have hvs : vals.size = ps.size := by have := hrel.1; have := hA pre x hax; simp at *; omega
  refine ⟨fn, (ps.zip vals).foldl (fun t (p, v) => t.setIfInBounds p v) tmps, assign, body, run_yield (P := P) (args := vals) hl hvs, roundIn_of_wpIn trivial ?_⟩
  obtain ⟨rec, hrec⟩ : ∃ rec : Loop, rec = ⟨.ready, none, fn, tmps, ps, assign, body, D⟩ := ⟨_, rfl⟩
  rw [← hrec] at hl hobjs ⊢
  have hst : rec.state = .ready := by rw [hrec]
  have hpe : rec.pending = none := by rw [hrec]
  -- the state in which the round begins
  have hs0 : SimC ⟨w, WB (⟨l, true, .loop rec⟩ :: wo), false⟩ C C (fun _ => none) ⟨S.nt, sl, Tr wo ++ [⟨l, true, .loop rec⟩]⟩ ⟨tmps, []⟩ w := by
    obtain ⟨ap1, ap2⟩ := List.pairwise_cons.1 hobjs.2
    refine ⟨BelowX.refl _, hcom.1, hcom.2, fun _ _ _ _ => rfl, ?_, ?_, by simp, by simp, hsz, ?_, Defs.nil, fun _ => Nat.le_refl _⟩
    · intro e he
      rcases List.mem_append.1 he with he | he
      · obtain ⟨e0, h0, rfl⟩ := List.mem_map.1 he
        have := hobjs.1 e0 (List.mem_cons_of_mem _ h0)
        exact ⟨this.1, this.2, fun _ => .inr ⟨e0, List.mem_cons_of_mem _ h0, rfl⟩⟩
      · obtain rfl := List.mem_singleton.1 he
        have := hobjs.1 _ (List.mem_cons_self)
        exact ⟨this.1, this.2, fun _ => .inr ⟨_, List.mem_cons_self, rfl⟩⟩
    · refine List.pairwise_append.2 ⟨List.pairwise_map.2 ap2, by simp, fun e he e' he' => ?_⟩
      obtain ⟨e0, h0, rfl⟩ := List.mem_map.1 he
      obtain rfl := List.mem_singleton.1 he'
      exact fun h => ap1 e0 h0 h.symm
    · intro t y hy
      have hpl' := List.all_eq_true.1 hpl _ (find_mem hy)
      have := hsl t y hy
      cases y with
      | a z => exact Rel.mono hmono this
      | own tok sz l => simp [SV.plain] at hpl'
  have hzip : (ps.toList.zip vals.toList).foldl (fun t (p, v) => t.setIfInBounds p v) tmps = (ps.zip vals).foldl (fun t (p, v) => t.setIfInBounds p v) tmps := by
    rw [← Array.foldl_toList, Array.toList_zip]
  have hs1 : SimC ⟨w, WB (⟨l, true, .loop rec⟩ :: wo), false⟩ C C (fun _ => none) (putsP ps.toList x ⟨S.nt, sl, Tr wo ++ [⟨l, true, .loop rec⟩]⟩) ⟨(ps.zip vals).foldl (fun t (p, v) => t.setIfInBounds p v) tmps, []⟩ w := by
    rw [← hzip]; exact putsP_sim (ps := ps.toList) hs0 hrel hps (by simp [hA pre x hax])
  have hround := hR l pre x wo rec { rec with state := .busy } _ C rfl hj hax _ w ⟨_, _, hs1⟩
  refine wpIn_mono hround ?_
  rintro e a1 w1 ⟨S1, ⟨C1, T1, hs1'⟩, rfl, i, hi, hbody⟩
  have hl1 : w1.heap[l]? = some (.loop rec) := (hs1'.objs _ (mem_of_get hi)).1
  have hlt1 : l < w1.heap.size := (Array.getElem?_eq_some_iff.1 hl1).1
  refine ⟨_, run_beginRound hl1 hst, ?_⟩
  have hs2 := hs1'.setObj (ob' := .loop { rec with state := .busy }) hi (w' := w1.putObj l (.loop { rec with state := .busy })) (Nat.le_refl _) rfl rfl rfl (by simp) (fun k hk => World.putObj_heap_other hk) (World.putObj_heap_same hlt1)
  refine wpIn_mono (hbody _ _ ⟨_, _, hs2⟩) ?_
  rintro e a3 w3 ⟨S3, ⟨C3, T3, hs3⟩, wo', hj', hsub, hrw⟩
  have hm : (⟨l, true, .loop { rec with state := .busy }⟩ : OE) ∈ S3.objs := hsub.mem (by simp)
  obtain ⟨k, hk⟩ := List.getElem?_of_mem hm
  have hl3 : w3.heap[l]? = some (.loop { rec with state := .busy }) := (hs3.objs _ hm).1
  have hlt3 : l < w3.heap.size := (Array.getElem?_eq_some_iff.1 hl3).1
  have key : ∀ pe : Option Code, (match pe with | none => JU (pre ++ [x]) wo' | some c => JX c (pre ++ [x]) wo') →
      ∃ v w', (Instr.endRound l pe).run P w3 = .ok v w' ∧ ∃ (pe : Option Code) (C' : CS) (wo' : List OE), (Ending.returned v) = .returned (.bool pe.isNone) ∧ (match pe with | none => JU (pre ++ [x]) wo' | some c => JX c (pre ++ [x]) wo') ∧ BelowX w.heap.size (WB (⟨l, true, .loop rec⟩ :: wo)) w w' ∧
        (∀ b o, b < w.heap.size → ¬ WB (⟨l, true, .loop rec⟩ :: wo) b → C' b o = C b o) ∧ Com C' w' ∧ Objs C' (⟨l, true, .loop ⟨if pe.isNone then .ready else .done, pe, fn, tmps, ps, assign, body, D⟩⟩ :: wo') w' ∧
        ∀ e ∈ (⟨l, true, .loop ⟨if pe.isNone then .ready else .done, pe, fn, tmps, ps, assign, body, D⟩⟩ :: wo' : List OE), w.heap.size ≤ e.b ∨ WB (⟨l, true, .loop rec⟩ :: wo) e.b := by
    intro pe hj'
    have hback : ({ { rec with state := LoopState.busy } with state := if pe.isNone then LoopState.ready else .done, pending := pe } : Loop) = ⟨if pe.isNone then .ready else .done, pe, fn, tmps, ps, assign, body, D⟩ := by rw [hrec]
    refine ⟨_, _, run_endRound pe hl3, ?_⟩
    rw [hback]
    have hap3 := hs3.apart.sublist hsub
    obtain ⟨ap1, _, ap2⟩ := List.pairwise_append.1 hap3
    have hC3 : ∀ o, C3 l o = none := (hs3.objs _ hm).2.1
    have hhp : ∀ k, k ≠ l → (w3.putObj l (.loop ⟨if pe.isNone then .ready else .done, pe, fn, tmps, ps, assign, body, D⟩)).heap[k]? = w3.heap[k]? := fun k hk => World.putObj_heap_other hk
    have hwl : WB (⟨l, true, .loop rec⟩ :: wo) l := ⟨_, List.mem_cons_self, rfl⟩
    refine ⟨pe, C3, wo', rfl, hj', ?_, hs3.old, ⟨fun b o v hc => ?_, hs3.one⟩, ⟨fun e he => ?_, ?_⟩, fun e he => ?_⟩
    · exact hs3.below.trans ⟨rfl, rfl, rfl, by simp, fun k _ hn => hhp k (fun e => by subst e; exact hn hwl)⟩
    · have hne : b ≠ l := fun e => by subst e; rw [hC3 o] at hc; cases hc
      exact (hs3.com _ _ _ hc).keep (hhp b hne)
    · rcases List.mem_cons.1 he with rfl | he
      · exact ⟨World.putObj_heap_same hlt3, hC3⟩
      · have := hs3.objs e (hsub.mem (List.mem_append.2 (.inl he)))
        exact ⟨this.1.mono (fun _ _ _ x => x) (hhp _ (ap2 e he _ (List.mem_singleton.2 rfl))), this.2.1⟩
    · exact List.pairwise_cons.2 ⟨fun e he h => ap2 e he _ (List.mem_singleton.2 rfl) h.symm, ap1⟩
    · rcases List.mem_cons.1 he with rfl | he
      · exact .inr hwl
      · have := (hs3.objs e (hsub.mem (List.mem_append.2 (.inl he)))).2.2 (hrw e he)
        exact this
  rcases hj' with ⟨rfl, hj'⟩ | ⟨c, hc, hj'⟩
  · exact key none hj'
  · cases hc with
    | ret => exact key (some .ret) hj'
    | exit id => exact key (some (.exit id)) hj'
theorem awp_rangeFuncS {g : Operand} {ps : Array Tmp} {assign body : Code} {it : Nat} {caps : List AV} {rd wo un : List OE} {A : List (List AV) → List AV → Prop} {G : List (List AV) → Prop} (JU : List (List AV) → List OE → Prop) (JX : Code → List (List AV) → List OE → Prop) (sl : List (Nat × SV)) (mask : List Bool)
    (hq : w0.q = false) (hg : S.ev g = some (.a (.fn it caps))) (hit : IterS P it caps rd A G) (hen : entersT P it) (hA : ∀ pre x, A pre x → x.length = ps.size) (hwo : sel mask S.objs = wo) (hrw : wo.all (·.rw) = true) (hun : unsel mask S.objs = un) (hrd : rd.Sublist un)
    (hsl : Slots S sl) (hpl : sl.all (fun p => p.2.plain) = true) (hps : ps.toList.all (fun p => Nat.blt p S.nt) = true) (h0 : JU [] wo) (hround : RoundS P S ps assign body sl JU JX A)
    (hr : ∀ xs wo', G xs → JU xs wo' → Q .normal ⟨S.nt, S.slots, Tr wo' ++ un⟩) (hx : ∀ c xs wo', JX c xs wo' → AWP P w0 C0 c Q ⟨S.nt, S.slots, Tr wo' ++ un⟩) : AWP P w0 C0 (.rangeFunc g ps assign body) Q S := by
  rintro a w ⟨C, T, hs⟩
  refine wpIn_wide.1 (wpIn_rangeFunc (n := 0) ?_)
  intro fn _
  have hp : (wo ++ un).Perm S.objs := by rw [← hwo, ← hun]; exact sel_perm mask S.objs
  have hf := hs.ev hg
  generalize hv : a.eval g = u at hf
  obtain ⟨arr, rfl⟩ : ∃ arr, u = .func (.func it) #[] arr := by cases hf; exact ⟨_, rfl⟩
  have hcaps := rel_fn.1 hf
  obtain ⟨rec, hrec⟩ : ∃ rec : Loop, rec = ⟨.ready, none, fn, a.tmps, ps, assign, body, w.heap.size⟩ := ⟨_, rfl⟩
  have hs1 := hs.mark
  have hs2 := hs1.newObj (.loop rec) (o := .loop rec) (by have := heap_alloc_at (w.alloc (.deferred (some []))) (.loop rec); exact this)
  obtain ⟨W1, hW1⟩ : ∃ W1, (w.alloc (.deferred (some []))).alloc (.loop rec) = W1 := ⟨_, rfl⟩
  have hl1 : (w.alloc (.deferred (some []))).heap.size = w.heap.size + 1 := by simp
  rw [hW1, hl1] at hs2
  refine ⟨w.heap.size + 1, [{ target := .collected w.heap.size, args := #[] }], W1, { target := .fn (.func it) arr, args := #[.func (.yield (w.heap.size + 1)) #[] #[]] }, W1, it,
    #[.func (.yield (w.heap.size + 1)) #[] #[]] ++ arr, W1, ?_, ?_, fun _ _ => trivial, ?_, fun h => by simp [Fence.wide] at h, ?_⟩
  · rw [← hW1, hrec]; exact run_enterLoop_outer _ _ _ _ _
  · simp only [resolve, hv]
    simp [go_sem]
  · have hen' := hen (#[Value.func (.yield (w.heap.size + 1)) #[] #[]] ++ arr) W1
    simp only [invoke, Sem.run] at hen' ⊢
    first | exact hen' | simpa [go_sem] using hen'
  · refine callsIn_wide.2 ?_
    -- the objects that the iterator is handed
    have hrel : Rels C (.v (.func (.yield (w.heap.size + 1)) #[] #[]) :: caps) (#[Value.func (.yield (w.heap.size + 1)) #[] #[]] ++ arr).toList := by simpa using Rels.cons (Rel.v _) hcaps
    have hp2 : ((⟨w.heap.size + 1, true, .loop rec⟩ :: wo) ++ un).Perm ((⟨w.heap.size + 1, true, .loop rec⟩ : OE) :: S.objs) := hp.cons _
    have hap : ((⟨w.heap.size + 1, true, .loop rec⟩ :: wo) ++ un : List OE).Pairwise (fun e e' => e.b ≠ e'.b) := (hp2.pairwise_iff (fun h => fun e => h e.symm)).2 hs2.apart
    have hobjs : Objs C (rd ++ (⟨w.heap.size + 1, true, .loop rec⟩ :: wo)) W1 := by
      refine ⟨fun e he => ?_, ?_⟩
      · have : e ∈ (⟨w.heap.size + 1, true, .loop rec⟩ : OE) :: S.objs := hp2.mem_iff.1 (List.mem_append.2 (by rcases List.mem_append.1 he with h | h; exact .inr (hrd.mem h); exact .inl h))
        exact ⟨(hs2.objs e this).1, (hs2.objs e this).2.1⟩
      · obtain ⟨h1, h2, h3⟩ := List.pairwise_append.1 hap
        exact List.pairwise_append.2 ⟨h2.sublist hrd, h1, fun e he e' he' h => h3 e' he' e (hrd.mem he) h.symm⟩
    have hyc := round_ycs hround (l := w.heap.size + 1) (fn := fn) (tmps := a.tmps) (D := w.heap.size) (Cs := C) (Ts := T) hs.size hps hA hpl (fun t x hx => by
      obtain ⟨y, hy, hle⟩ := hsl.mem (find_mem hx)
      exact hle.rel (hs.slots t y hy))
    have hpe : rec.pending = none := by rw [hrec]
    have hst : rec.state = .ready := by rw [hrec]
    have hcall := hit (w.heap.size + 1) C (fun pre wo1 => ∃ wo', wo1 = ⟨w.heap.size + 1, true, .loop rec⟩ :: wo' ∧ JU pre wo')
      (fun pre wo1 => ∃ c wo', wo1 = ⟨w.heap.size + 1, true, .loop ⟨.done, some c, fn, a.tmps, ps, assign, body, w.heap.size⟩⟩ :: wo' ∧ JX c pre wo') (by
      rintro pre x wo1 ⟨wo', rfl, hj⟩ hax C1 w1 vals hm hc hrl hob
      rw [hrec] at hob ⊢
      refine YieldAt.mono (hyc pre x wo' hj hax C1 w1 vals hc hrl hob hm) ?_
      rintro e w' ⟨pe, C', wo2, rfl, hj2, g1, g2, g3, g4, g5⟩
      cases pe with
      | none => exact ⟨true, rfl, C', _, ⟨wo2, rfl, hj2⟩, g1, g2, g3, g4, g5⟩
      | some c => exact ⟨false, rfl, C', _, ⟨c, wo2, rfl, hj2⟩, g1, g2, g3, g4, g5⟩) (⟨w.heap.size + 1, true, .loop rec⟩ :: wo) ⟨wo, rfl, h0⟩ C W1 _ (fun _ _ _ h => h) ⟨hs2.com, hs2.one⟩ hrel hobjs
    refine hcall.mono ?_
    have fin : ∀ (C3 : CS) (w3 : World) (r' : Loop) (wo' : List OE), r'.state ≠ .busy → BelowX W1.heap.size (WB (⟨w.heap.size + 1, true, .loop rec⟩ :: wo)) W1 w3 → (∀ b o, b < W1.heap.size → ¬ WB (⟨w.heap.size + 1, true, .loop rec⟩ :: wo) b → C3 b o = C b o) → Com C3 w3 →
        Objs C3 (Tr (⟨w.heap.size + 1, true, .loop r'⟩ :: wo')) w3 → (∀ e ∈ Tr (⟨w.heap.size + 1, true, .loop r'⟩ :: wo'), W1.heap.size ≤ e.b ∨ WB (⟨w.heap.size + 1, true, .loop rec⟩ :: wo) e.b) →
        ∃ w4, (Instr.endLoop (w.heap.size + 1)).run P w3 = .ok r'.pending w4 ∧ Sim w0 C0 ⟨S.nt, S.slots, Tr wo' ++ un⟩ { a with defers := [{ target := .collected w.heap.size, args := #[] }] ++ a.defers } w4 := by
      intro C3 w3 r' wo' hst' hb hC hcom hn hnb
      have hs3 := hs2.calledW hp2 (fun e he => by rcases List.mem_cons.1 he with rfl | he; rfl; exact List.all_eq_true.1 hrw e he) hb (fun h => by rw [hq] at h; cases h) hC hcom hn hnb
      rw [tr_tr] at hs3
      have hi0 : (Tr (⟨w.heap.size + 1, true, .loop r'⟩ :: wo') ++ un)[0]? = some ⟨w.heap.size + 1, true, .loop r'⟩ := rfl
      have hl3 : w3.heap[w.heap.size + 1]? = some (.loop r') := (hs3.objs _ (mem_of_get hi0)).1
      refine ⟨_, run_endLoop (P := P) hl3 hst', ?_⟩
      have hs4 := hs3.setObj (ob' := .loop { r' with state := .exhausted }) hi0 (w' := w3.putObj (w.heap.size + 1) (.loop { r' with state := .exhausted })) (Nat.le_refl _) rfl rfl rfl (by simp) (fun k hk => World.putObj_heap_other hk) (World.putObj_heap_same (Array.getElem?_eq_some_iff.1 hl3).1)
      exact ⟨C3, T, hs4.sub (objs := Tr wo' ++ un) (by simp [Tr])⟩
    rintro e w3 ⟨v, C3, r, nobjs, rfl, ⟨xs, wo1, rfl, hor⟩, hb, hC, hcom, _, hn, hnb⟩
    rcases hor with ⟨hG, ⟨wo', rfl, hj⟩⟩ | ⟨c, wo', rfl, hj⟩
    · obtain ⟨w4, h1, h2⟩ := fin C3 w3 rec wo' (by rw [hst]; simp) hb hC hcom hn hnb
      rw [hpe] at h1
      exact ⟨none, w4, h1, _, h2, hr xs wo' hG hj⟩
    · obtain ⟨w4, h1, h2⟩ := fin C3 w3 ⟨.done, some c, fn, a.tmps, ps, assign, body, w.heap.size⟩ wo' (by simp) hb hC hcom hn hnb
      exact ⟨some c, w4, h1, wpIn_wide.2 (hx c xs wo' hj _ _ h2)⟩
end Go.Proofs.Ytpkodkoooaldlaa.A
namespace Go.Proofs.Ytpkodkoooaldlaa.A
open Go Go.RowKit
set_option linter.unusedVariables false
set_option linter.unusedSimpArgs false
set_option linter.unusedSectionVars false
variable {P : Program} {w0 : Base} {C0 C : CS} {T : TS} {S S' : AState} {a : Act} {w : World} {ops : Array Oper} {rest : List Oper} {o : Oper} {Q : Exit → AState → Prop}
structure Box1 (P : Program) (p ty : Nat) (S : AState) (r : AV) : Prop where
  ex : ∃ (b i : Nat) (rw' : Bool), S.get p = some (.a (.v (.pointer (some ⟨b, 0, none⟩)))) ∧ S.objs[i]? = some ⟨b, rw', .box [r]⟩ ∧ aggT P ty = some false
theorem Box1.run {p ty : Nat} {r : AV} (hs : SimC w0 C0 C T S a w) (h : Box1 P p ty S r) : ∃ ad v, (asAddr (a.tmps.getD p undef)).run P w = .ok ad w ∧ (loadVar ty ad).run P w = .ok v w ∧ Rel C r v := by
  obtain ⟨b, i, rw', hp, hi, hA⟩ := h.ex
  have hv := hs.slots _ _ hp
  have hv' : a.tmps.getD p undef = .pointer (some ⟨b, 0, none⟩) := by generalize a.tmps.getD p undef = u at hv; cases hv; rfl
  obtain ⟨arr0, g1, g2⟩ := box_cells (hs.objs _ (mem_of_get hi)).1
  obtain ⟨u, hu, hr⟩ := g1.get (j := 0) rfl
  have hc := g2 0 u hu
  exact ⟨⟨b, 0, none⟩, u, by rw [hv']; simp [asAddr], run_loadVar1 hA hc, hr⟩
inductive ResK (P : Program) (S : AState) : ResultVar → AV → Prop
  | tmp {t : Nat} {c : AV} (h : Res S t c) : ResK P S (.tmp t) c
  | box {p ty : Nat} {c : AV} (h : BoxR P p ty S c) : ResK P S (.cell p ty) c
  | one {p ty b : Nat} {c : AV} {rw' : Bool} (i : Nat) (hp : S.get p = some (.a (.v (.pointer (some ⟨b, 0, none⟩))))) (hi : S.objs[i]? = some ⟨b, rw', .box [c]⟩) (hA : aggT P ty = some false) : ResK P S (.cell p ty) c
def resOne (tmps : Array Value) : ResultVar → Sem Value
  | .tmp t => pure (tmps.getD t undef)
  | .cell a t => do loadVar t (← asAddr (tmps.getD a undef))
theorem ResK.run {rv : ResultVar} {c : AV} (hs : SimC w0 C0 C T S a w) (h : ResK P S rv c) : ∃ v, (resOne a.tmps rv).run P w = .ok v w ∧ Rel C c v := by
  cases h with
  | tmp h => exact ⟨_, rfl, h.rel hs⟩
  | box h => obtain ⟨ad, v, h1, h2, h3⟩ := h.run hs; exact ⟨v, by simp only [resOne, Sem.run_bind, h1, Result.andThen_ok]; exact h2, h3⟩
  | one i hp hi hA => obtain ⟨ad, v, h1, h2, h3⟩ := (Box1.mk ⟨_, i, _, hp, hi, hA⟩ : Box1 P _ _ S c).run hs; exact ⟨v, by simp only [resOne, Sem.run_bind, h1, Result.andThen_ok]; exact h2, h3⟩
def Res2K (P : Program) (rv rv' : ResultVar) (S : AState) (r : AV) : Prop := ∃ c c', ResK P S rv c ∧ ResK P S rv' c' ∧ r = .tup [c, c']
theorem resK2_run {fn : Func} {rv rv' : ResultVar} (hr : fn.results = #[rv, rv']) : ∀ (w0 : Base) (C0 C : CS) (T : TS) (S : AState) (a : Act) (w : World) (r : AV), SimC w0 C0 C T S a w → Res2K P rv rv' S r → ∃ v, (results fn a.tmps).run P w = .ok v w ∧ Rel C r v := by
  rintro w0 C0 C T S a w r hs ⟨c, c', h, h', rfl⟩
  obtain ⟨v, h1, h2⟩ := h.run hs
  obtain ⟨v', h1', h2'⟩ := h'.run hs
  refine ⟨.tuple #[v, v'], ?_, rel_tup.2 (Rels.cons h2 (Rels.cons h2' Rels.nil))⟩
  have e : results fn a.tmps = (do let vs ← fn.results.mapM (resOne a.tmps); pure (if h : vs.size = 1 then vs[0] else .tuple vs)) := by
    unfold results
    congr 1
  rw [e, hr]
  simp [Sem.run_bind, h1, h1']
end Go.Proofs.Ytpkodkoooaldlaa.A
namespace Go.Proofs.Ytpkodkoooaldlaa.A
open Go Go.RowKit
set_option linter.unusedVariables false
set_option linter.unusedSimpArgs false
set_option maxRecDepth 100000
theorem TF.un100 : Try.prog.underlying 100 = some (.pointer 115) := by kernel_rfl
theorem TF.f115_2 : fieldT Try.prog 115 2 = some (2, 107) := by kernel_rfl
theorem TF.sz107 : szT Try.prog 107 = some 1 := by kernel_rfl
theorem TF.agg107 : aggT Try.prog 107 = some false := by kernel_rfl
theorem TF.sl107 : sliceT Try.prog 107 = some 100 := by kernel_rfl
theorem TF.zero73 : ZeroT Try.prog 73 [.v (.int .i64 0), .v (.int .i64 0), .v (.int .i64 0), .v (.int .u64 0)] := ⟨[(.int .i64 0), (.int .i64 0), (.int .i64 0), (.int .u64 0)], by kernel_rfl, (LeCells.refl _)⟩
theorem TF.f115_0 : fieldT Try.prog 115 0 = some (0, 112) := by kernel_rfl
theorem TF.sz112 : szT Try.prog 112 = some 1 := by kernel_rfl
theorem TF.agg112 : aggT Try.prog 112 = some false := by kernel_rfl
theorem TF.sl112 : sliceT Try.prog 112 = some 73 := by kernel_rfl
theorem TF.sz73 : szT Try.prog 73 = some 4 := by kernel_rfl
theorem TF.agg73 : aggT Try.prog 73 = some true := by kernel_rfl
theorem leaf_ok (b : Nat) (ks : List Sp) (vs : List Int) (kd : List AV) : AC Try.prog 51 [ndA b ks vs kd] [] (fun r n => n = [] ∧ r = boolA kd.isEmpty) := by
 refine ac_of_awp (rs := [2]) (nt := 13) Try.func51 rfl rfl rfl rfl (fun w0 C0 hq => ?_)
 unfold ndA
 refine awp_seq ?_
 refine awp_region ?_
 refine r_assign rfl rfl ?_
 refine awl_nil ?_
 refine x_then ?_
 refine awp_seq ?_
 refine awp_region ?_
 refine r_move rfl rfl ?_
 refine r_pnnil rfl (by first | exact .pt _ _ | exact .nil | exact .v _ | exact .cp _) TF.un100 rfl ?_
 refine r_move rfl rfl ?_
 refine g_run rfl rfl rfl ?_
 refine r_move rfl rfl ?_
 refine g_run rfl rfl rfl ?_
 refine r_nilCheck rfl (by first | exact .pt _ _ | exact .v _ | exact .cp _) rfl ?_
 refine g_run rfl rfl rfl ?_
 first | (refine r_fieldcp rfl TF.f115_2 TF.sz107 rfl ?_) | (refine r_fieldpt rfl TF.f115_2 TF.sz107 rfl ?_) | (refine r_fieldb rfl TF.f115_2 TF.sz107 rfl ?_)
 refine g_run rfl rfl rfl ?_
 refine r_load1 rfl TF.agg107 rfl ?_
 refine g_run rfl rfl rfl ?_
 first | (refine r_lenS rfl rfl TF.sl107 rfl ?_) | (refine r_lenNil rfl TF.sl107 rfl ?_) | (refine r_lenV rfl TF.sl107 rfl ?_)
 refine g_run rfl rfl rfl ?_
 refine r_cmp rfl rfl rfl rfl ?_
 refine r_pickT rfl rfl rfl rfl ?_
 refine r_assign rfl rfl ?_
 refine awl_nil ?_
 refine x_then ?_
 refine awp_ret ?_
 exact ⟨(.inl rfl), _, [], (.one (by first | exact .mk rfl rfl | exact .nil rfl)), ⟨rfl, by cases kd <;> simp [boolA] <;> rfl⟩, (List.nil_sublist _), (by simp)⟩
theorem least_ok (b : Nat) (ks : List Sp) (vs : List Int) (kd : List AV) (x : Sp) (hx : ks[0]? = some x) (hl : ks.length ≤ 1000000) : AC Try.prog 44 [ndA b ks vs kd] [] (fun r n => n = [] ∧ r = .tup [spA x, boolA true]) := by
 refine ac_of_awpG (Res2K Try.prog (.cell 2 73) (.tmp 3)) (nt := 21) Try.func44 rfl rfl rfl (resK2_run rfl) (fun w0 C0 hq => ?_)
 unfold ndA
 have hpos : 0 < ks.length := (List.getElem?_eq_some_iff.1 hx).1
 refine awp_seq ?_
 refine awp_region ?_
 refine r_alloc TF.zero73 rfl (fun b2 => ?_)
 refine r_assign rfl rfl ?_
 refine awl_nil ?_
 refine x_then ?_
 refine awp_seq ?_
 refine awp_seq ?_
 refine awp_region ?_
 refine r_move rfl rfl ?_
 refine r_pnil rfl (by first | exact .pt _ _ | exact .nil | exact .v _ | exact .cp _) TF.un100 rfl ?_
 refine r_move rfl rfl ?_
 refine g_run rfl rfl rfl ?_
 refine r_move rfl rfl ?_
 refine g_run rfl rfl rfl ?_
 refine r_nilCheck rfl (by first | exact .pt _ _ | exact .v _ | exact .cp _) rfl ?_
 refine g_run rfl rfl rfl ?_
 first | (refine r_fieldcp rfl TF.f115_0 TF.sz112 rfl ?_) | (refine r_fieldpt rfl TF.f115_0 TF.sz112 rfl ?_) | (refine r_fieldb rfl TF.f115_0 TF.sz112 rfl ?_)
 refine g_run rfl rfl rfl ?_
 first | (refine r_load1 rfl TF.agg112 rfl ?_) | (refine r_load1b 0 rfl rfl rfl TF.agg112 rfl ?_)
 refine g_run rfl rfl rfl ?_
 first | (refine r_lenS rfl rfl TF.sl112 rfl ?_) | (refine r_lenNil rfl TF.sl112 rfl ?_) | (refine r_lenV rfl TF.sl112 rfl ?_)
 refine g_run rfl rfl rfl ?_
 refine r_cmp rfl rfl rfl rfl ?_
 refine r_pickF rfl rfl rfl rfl ?_
 refine awl_nil ?_
 refine x_then ?_
 refine awp_cond rfl (fun hc0 => ?_) (fun hc0 => ?_)
 ·
  exfalso; simp at hc0; subst hc0; simp at hpos
 ·
  refine awp_skip ?_
  refine x_then ?_
  refine awp_seq ?_
  refine awp_region ?_
  refine r_move rfl rfl ?_
  refine r_nilCheck rfl (by first | exact .pt _ _ | exact .v _ | exact .cp _) rfl ?_
  first | (refine r_fieldcp rfl TF.f115_0 TF.sz112 rfl ?_) | (refine r_fieldpt rfl TF.f115_0 TF.sz112 rfl ?_) | (refine r_fieldb rfl TF.f115_0 TF.sz112 rfl ?_)
  first | (refine r_load1 rfl TF.agg112 rfl ?_) | (refine r_load1b 0 rfl rfl rfl TF.agg112 rfl ?_)
  refine r_index rfl rfl rfl TF.sl112 TF.sz73 (by omega) (get_map hx) rfl ?_
  first | (refine r_loadA rfl TF.agg73 TF.sz73 rfl rfl ?_) | (refine r_loadAb 0 rfl rfl TF.agg73 TF.sz73 rfl rfl ?_)
  refine r_store 0 rfl rfl rfl TF.sz73 rfl rfl rfl ?_
  refine r_assign rfl rfl ?_
  refine awl_nil ?_
  refine x_then ?_
  refine awp_ret ?_
  exact ⟨(.inl rfl), _, [], ⟨_, _, (.box (by first | exact .mk' 0 rfl rfl TF.agg73 TF.sz73 rfl | exact .mk' 1 rfl rfl TF.agg73 TF.sz73 rfl | exact .mk' 2 rfl rfl TF.agg73 TF.sz73 rfl | exact .mk' 3 rfl rfl TF.agg73 TF.sz73 rfl | exact .mk' 4 rfl rfl TF.agg73 TF.sz73 rfl | exact .mk' 5 rfl rfl TF.agg73 TF.sz73 rfl)), (.tmp (by first | exact .mk rfl rfl | exact .nil rfl)), rfl⟩, ⟨rfl, rfl⟩, (List.nil_sublist _), (by simp)⟩
end Go.Proofs.Ytpkodkoooaldlaa.A
namespace Go.Proofs.Ytpkodkoooaldlaa.A
open Go Go.RowKit
set_option linter.unusedVariables false
set_option linter.unusedSimpArgs false
set_option maxRecDepth 100000
theorem TF.en79 : entersT Try.prog 79 := enters_of Try.func79 (by kernel_rfl) (by kernel_rfl)
theorem TF.zero3 : ZeroT Try.prog 3 [.v (.int .i64 0)] := ⟨[(.int .i64 0)], by kernel_rfl, (LeCells.refl _)⟩
theorem TF.zero4 : ZeroT Try.prog 4 [.v (.bool false)] := ⟨[(.bool false)], by kernel_rfl, (LeCells.refl _)⟩
theorem TF.en51 : entersT Try.prog 51 := enters_of Try.func51 (by kernel_rfl) (by kernel_rfl)
theorem TF.en64 : entersT Try.prog 64 := enters_of Try.func64 (by kernel_rfl) (by kernel_rfl)
theorem TF.sz4 : szT Try.prog 4 = some 1 := by kernel_rfl
theorem TF.agg4 : aggT Try.prog 4 = some false := by kernel_rfl
theorem TF.en65 : entersT Try.prog 65 := enters_of Try.func65 (by kernel_rfl) (by kernel_rfl)
theorem rev_getS {ks : List Sp} {k : Nat} {x : Sp} (h : ks.reverse[k]? = some x) : k < ks.length ∧ ks[ks.length - 1 - k]? = some x := by
  have hk : k < ks.length := by have := (List.getElem?_eq_some_iff.1 h).1; simpa using this
  rw [List.getElem?_reverse hk] at h
  exact ⟨hk, h⟩
def backS (ks : List Sp) (pre : List (List AV)) (x : List AV) : Prop := ∃ s, ks.reverse[pre.length]? = some s ∧ x = [.v (.int .i64 ((ks.length : Int) - 1 - (pre.length : Int))), spA s]
theorem tr_rwS {l : List OE} : ∀ e ∈ Tr l, e.rw = true := fun e he => by obtain ⟨e0, _, rfl⟩ := List.mem_map.1 he; rfl
theorem back_okT (ks : List Sp) : AC Try.prog 65 [.sl 4 (ks.map Sp.cs)] [] (fun r n => n = [] ∧ r = .fn 79 [.cp [.sl 4 (ks.map Sp.cs)]]) := by
 refine ac_of_awp (rs := [2]) (nt := 4) Try.func65 rfl rfl rfl rfl (fun w0 C0 hq => ?_)
 refine awp_seq ?_
 refine awp_region ?_
 refine r_box rfl rfl rfl (fun b1 => ?_)
 refine r_assign rfl rfl ?_
 refine awl_nil ?_
 refine x_then ?_
 refine awp_seq ?_
 refine awp_region ?_
 refine awl_imp (imp_commit 0 1 rfl rfl rfl rfl) ?_
 refine r_makeFunc rfl (.cons (.ev rfl rfl) .nil) rfl ?_
 refine r_assign rfl rfl ?_
 refine awl_nil ?_
 refine x_then ?_
 refine awp_ret ?_
 exact ⟨(.inl rfl), _, [], (.one (by first | exact .mk rfl rfl | exact .nil rfl)), ⟨rfl, rfl⟩, (List.nil_sublist _), (by simp)⟩
theorem back1_okT (ks : List Sp) (hl : ks.length ≤ 1000000) : IterS Try.prog 79 [.cp [.sl 4 (ks.map Sp.cs)]] [] (backS ks) (fun xs => xs.length = ks.length) := by
 intro l0 Cs J D hY wo hJ0
 refine awc_of_awpG Cs (so := Tr wo) (nt := 19) (fun S r => Result1 S [] r) Try.func79 rfl rfl rfl rfl (result1_run rfl) (fun w0 C0 hq hcs => ?_)
 refine awp_seq ?_
 refine awp_region ?_
 refine r_load1 rfl TF.agg112 rfl ?_
 first | (refine r_lenS rfl rfl TF.sl112 rfl ?_) | (refine r_lenNil rfl TF.sl112 rfl ?_) | (refine r_lenV rfl TF.sl112 rfl ?_)
 refine r_ari _ rfl rfl rfl (wrap_id (by first | omega | (simp; omega))) rfl ?_
 refine r_assign rfl rfl ?_
 refine awl_nil ?_
 refine x_then ?_
 refine awp_block ?_
 refine awp_loop (fun nn0 S => ∃ k : Nat, ∃ pr : List (List AV), ∃ wv : List OE, S = ⟨19, [(0, .a (.v (.func (.yield l0) #[] #[]))), (1, .a (.cp [.sl 4 (ks.map Sp.cs)])), (3, .a (.v (.int .i64 ((ks.length : Int) - 1 - (k : Int)))))], Tr wv⟩ ∧ nn0 = ks.length - k ∧ (k ≤ ks.length) ∧ (pr.length = k) ∧ (J pr wv)) (ks.length - (0)) ⟨19, [(0, .a (.v (.func (.yield l0) #[] #[]))), (1, .a (.cp [.sl 4 (ks.map Sp.cs)])), (3, .a (.v (.int .i64 ((ks.length : Int) - 1 - ((0) : Int)))))], Tr (wo)⟩ ⟨rfl, (Slots.cons rfl (by first | exact .refl _ | exact .nilOwn _ _ | exact .nilSl _ | exact .ownSl _ _ _  | exact SV.le.ownEq (by simp) | exact SV.le.of_eq (by simp)) (Slots.cons rfl (by first | exact .refl _ | exact .nilOwn _ _ | exact .nilSl _ | exact .ownSl _ _ _  | exact SV.le.ownEq (by simp) | exact SV.le.of_eq (by simp)) (Slots.cons rfl (by first | exact .refl _ | exact .nilOwn _ _ | exact .nilSl _ | exact .ownSl _ _ _  | exact SV.le.ownEq (by simp) | exact SV.le.of_eq (by simp)) Slots.nil))), (by first | exact List.Sublist.refl _ | exact .cons_cons _ (.cons _ (.refl _)) | exact List.nil_sublist _ | exact .cons _ (.refl _) | exact .cons _ (.cons _ (.refl _)) | exact .cons _ (.cons _ (.cons _ (.refl _))) | exact .cons _ (.cons _ (.cons _ (.cons _ (.refl _)))) | exact .cons_cons _ (List.nil_sublist _))⟩ ⟨0, [], wo, rfl, rfl, Nat.zero_le _, rfl, hJ0⟩ ?_
 rintro nn0 _ ⟨k, pr, wv, rfl, rfl, hk, hpr, hJ⟩
 refine awp_seq ?_
 refine awp_seq ?_
 refine awp_region ?_
 refine r_move rfl rfl ?_
 refine r_cmp rfl rfl rfl rfl ?_
 refine awl_nil ?_
 refine x_then ?_
 refine awp_cond rfl (fun hc0 => ?_) (fun hc0 => ?_)
 ·
  have hkl : k < ks.length := by have := of_decide_eq_true hc0; simp at this; omega
  obtain ⟨x, hxr⟩ : ∃ x, ks.reverse[k]? = some x := get_lt (by simpa using hkl)
  have hx := (rev_getS hxr).2
  refine awp_skip ?_
  refine x_then ?_
  refine awp_seq ?_
  refine awp_block ?_
  refine awp_seq ?_
  refine awp_regionI ?_
  refine awli_op (fun c h => (by cases h)) ?_
  refine r_move rfl rfl ?_
  refine awl_nil ⟨rfl, ?_⟩
  refine awli_op (fun c h => (by cases h)) ?_
  refine r_move rfl rfl ?_
  refine awl_nil ⟨rfl, ?_⟩
  refine awli_op (fun c h => (by cases h)) ?_
  refine r_load1 rfl TF.agg112 rfl ?_
  refine awl_nil ⟨rfl, ?_⟩
  refine awli_op (fun c h => (by cases h)) ?_
  refine r_move rfl rfl ?_
  refine awl_nil ⟨rfl, ?_⟩
  refine awli_op (fun c h => (by cases h)) ?_
  refine r_index rfl rfl rfl TF.sl112 TF.sz73 (by omega) (by rw [show ((ks.length : Int) - 1 - (k : Int)).toNat = ks.length - 1 - k by omega]; exact get_map hx) rfl ?_
  refine awl_nil ⟨rfl, ?_⟩
  refine awli_op (fun c h => (by cases h)) ?_
  refine r_loadA rfl TF.agg73 TF.sz73 rfl rfl ?_
  refine awl_nil ⟨rfl, ?_⟩
  refine r_yieldS hq (un := []) (fun n => Tr n) rfl rfl (.cons (.ev rfl rfl) (.cons (.ev rfl rfl) .nil)) Cs hcs (hY pr [.v (.int .i64 ((ks.length : Int) - 1 - (k : Int))), spA x] wv hJ ⟨x, by rw [hpr]; exact hxr, by rw [hpr]⟩) (by rw [List.append_nil]; exact List.Perm.refl _) (fun n => by rw [List.append_nil]) rfl (fun bb nobjs hJ' => ?_)
  refine awli_op (fun c h => (by cases h)) ?_
  refine r_not rfl rfl ?_
  refine awl_nil ⟨rfl, ?_⟩
  refine awli_nil ?_
  refine x_then ?_
  refine awp_cond rfl (fun hc1 => ?_) (fun hc1 => ?_)
  ·
   have hbb : bb = false := by simpa using hc1
   subst hbb
   have hD2 : D _ _ := hJ'
   refine awp_ret ?_
   refine x_blockR ?_
   refine x_thenR ?_
   refine x_thenR ?_
   refine x_blockR ?_
   exact ⟨(.inl rfl), _, Tr nobjs, .none, ⟨_, nobjs, rfl, .inr hD2⟩, (List.Sublist.refl _), tr_rwS⟩
  ·
   have hbb : bb = true := by simpa using hc1
   subst hbb
   have hJ2 : J _ _ := hJ'
   refine awp_skip ?_
   refine x_block ?_
   refine x_then ?_
   refine awp_region ?_
   refine r_move rfl rfl ?_
   refine r_ari _ rfl rfl rfl (wrap_id (by first | omega | (simp; omega))) rfl ?_
   refine r_assign rfl rfl ?_
   refine awl_nil ?_
   refine x_then ?_
   refine ⟨ks.length - (k + 1), ⟨19, [(0, .a (.v (.func (.yield l0) #[] #[]))), (1, .a (.cp [.sl 4 (ks.map Sp.cs)])), (3, .a (.v (.int .i64 ((ks.length : Int) - 1 - ((k + 1) : Int)))))], Tr (nobjs)⟩, ⟨rfl, (Slots.cons rfl (by first | exact .refl _ | exact .nilOwn _ _ | exact .nilSl _ | exact .ownSl _ _ _  | exact SV.le.ownEq (by simp <;> omega) | exact SV.le.of_eq (by simp <;> omega)) (Slots.cons rfl (by first | exact .refl _ | exact .nilOwn _ _ | exact .nilSl _ | exact .ownSl _ _ _  | exact SV.le.ownEq (by simp <;> omega) | exact SV.le.of_eq (by simp <;> omega)) (Slots.cons rfl (by first | exact .refl _ | exact .nilOwn _ _ | exact .nilSl _ | exact .ownSl _ _ _  | exact SV.le.ownEq (by simp <;> omega) | exact SV.le.of_eq (by simp <;> omega)) Slots.nil))), (by first | exact List.Sublist.refl _ | exact .cons_cons _ (.cons _ (.refl _)) | exact List.nil_sublist _ | exact .cons _ (.refl _) | exact .cons _ (.cons _ (.refl _)) | exact .cons _ (.cons _ (.cons _ (.refl _))) | exact .cons _ (.cons _ (.cons _ (.cons _ (.refl _)))) | exact .cons_cons _ (List.nil_sublist _))⟩, (by omega), ⟨k + 1, pr ++ [[.v (.int .i64 ((ks.length : Int) - 1 - (k : Int))), spA x]], nobjs, rfl, rfl, (by omega), (by simp [hpr]), hJ2⟩⟩
 ·
  have hkl : ks.length ≤ k := by have := of_decide_eq_false hc0; simp at this; omega
  refine awp_exit ?_
  refine x_thenE ?_
  refine x_thenE ?_
  refine x_blockE ?_
  exact ⟨(.inr rfl), _, Tr wv, .none, ⟨pr, wv, rfl, .inl ⟨by omega, hJ⟩⟩, (List.Sublist.refl _), tr_rwS⟩
theorem find_ok (b : Nat) (ks : List Sp) (vs : List Int) (kd : List AV) (hl : ks.length ≤ 1000000) (k : Sp) : AC Try.prog 52 [ndA b ks vs kd, spA k] [] (fun r n => n = [] ∧ r = .tup [.v (.int .i64 ((findN k ks kd.isEmpty).1 : Nat)), boolA (findN k ks kd.isEmpty).2]) := by
 refine ac_of_awpG (Res2K Try.prog (.cell 4 3) (.cell 5 4)) (nt := 55) Try.func52 rfl rfl rfl (resK2_run rfl) (fun w0 C0 hq => ?_)
 refine awp_seq ?_
 refine awp_region ?_
 refine r_box rfl rfl rfl (fun b3 => ?_)
 refine r_alloc TF.zero3 rfl (fun b4 => ?_)
 refine r_alloc TF.zero4 rfl (fun b5 => ?_)
 refine awl_nil ?_
 refine x_then ?_
 refine awp_seq ?_
 refine awp_seq ?_
 refine awp_region ?_
 refine awl_imp (imp_commit 2 3 rfl rfl rfl rfl) ?_
 refine r_move rfl rfl ?_
 refine r_pnil rfl (by first | exact .pt _ _ | exact .nil | exact .v _ | exact .cp _) TF.un100 rfl ?_
 refine awl_nil ?_
 refine x_then ?_
 refine awp_cond rfl (fun hc0 => ?_) (fun hc0 => ?_)
 ·
  exfalso; cases hc0
 ·
  refine awp_skip ?_
  refine x_then ?_
  refine awp_seq ?_
  refine awp_seq ?_
  refine awp_region ?_
  refine r_move rfl rfl ?_
  refine r_call0 hq rfl rfl (.cons (.ev rfl rfl) .nil) (leaf_ok b ks vs kd) rfl TF.en51 rfl (fun r hr => ?_)
  obtain rfl := hr
  refine awl_nil ?_
  refine x_then ?_
  refine awp_cond rfl (fun hc1 => ?_) (fun hc1 => ?_)
  ·
   have he : kd.isEmpty = true := hc1
   rw [he]
   refine awp_seq ?_
   refine awp_seq ?_
   refine awp_region ?_
   refine r_move rfl rfl ?_
   refine r_nilCheck rfl (by first | exact .pt _ _ | exact .v _ | exact .cp _) rfl ?_
   first | (refine r_fieldcp rfl TF.f115_0 TF.sz112 rfl ?_) | (refine r_fieldpt rfl TF.f115_0 TF.sz112 rfl ?_) | (refine r_fieldb rfl TF.f115_0 TF.sz112 rfl ?_)
   first | (refine r_load1 rfl TF.agg112 rfl ?_) | (refine r_load1b 0 rfl rfl rfl TF.agg112 rfl ?_) | (refine r_load1b 1 rfl rfl rfl TF.agg112 rfl ?_) | (refine r_load1b 2 rfl rfl rfl TF.agg112 rfl ?_)
   first | (refine r_lenS rfl rfl TF.sl112 rfl ?_) | (refine r_lenNil rfl TF.sl112 rfl ?_) | (refine r_lenV rfl TF.sl112 rfl ?_)
   refine r_move rfl rfl ?_
   refine awl_nil ?_
   refine x_then ?_
   refine awp_block ?_
   refine awp_loop (fun nn0 S => ∃ i : Nat, S = ⟨55, [(0, .a (ndA b ks vs kd)), (3, .a (.cp k.cs)), (4, .a (.v (.pointer (some ⟨b4, 0, none⟩)))), (5, .a (.v (.pointer (some ⟨b5, 0, none⟩)))), (19, .a (.sl 4 (ks.map Sp.cs))), (20, .a (.v (.int .i64 (((ks.map Sp.cs).length : Nat))))), (21, .a (.v (.int .i64 ((i : Int)))))], [⟨b5, true, .box [.v (.bool (false))]⟩, ⟨b4, true, .box [.v (.int .i64 (0))]⟩]⟩ ∧ nn0 = ks.length - i ∧ (i ≤ ks.length) ∧ (∀ j, j < i → ∀ y, ks[j]? = some y → ¬ 0 ≤ y.ord k)) (ks.length - (0)) ⟨55, [(0, .a (ndA b ks vs kd)), (3, .a (.cp k.cs)), (4, .a (.v (.pointer (some ⟨b4, 0, none⟩)))), (5, .a (.v (.pointer (some ⟨b5, 0, none⟩)))), (19, .a (.sl 4 (ks.map Sp.cs))), (20, .a (.v (.int .i64 (((ks.map Sp.cs).length : Nat))))), (21, .a (.v (.int .i64 (((0) : Int)))))], [⟨b5, true, .box [.v (.bool (false))]⟩, ⟨b4, true, .box [.v (.int .i64 (0))]⟩]⟩ ⟨rfl, (Slots.cons rfl (by first | exact .refl _ | exact .nilOwn _ _ | exact .nilSl _ | exact .ownSl _ _ _  | exact SV.le.of_eq (by simp)) (Slots.cons rfl (by first | exact .refl _ | exact .nilOwn _ _ | exact .nilSl _ | exact .ownSl _ _ _  | exact SV.le.of_eq (by simp)) (Slots.cons rfl (by first | exact .refl _ | exact .nilOwn _ _ | exact .nilSl _ | exact .ownSl _ _ _  | exact SV.le.of_eq (by simp)) (Slots.cons rfl (by first | exact .refl _ | exact .nilOwn _ _ | exact .nilSl _ | exact .ownSl _ _ _  | exact SV.le.of_eq (by simp)) (Slots.cons rfl (by first | exact .refl _ | exact .nilOwn _ _ | exact .nilSl _ | exact .ownSl _ _ _  | exact SV.le.of_eq (by simp)) (Slots.cons rfl (by first | exact .refl _ | exact .nilOwn _ _ | exact .nilSl _ | exact .ownSl _ _ _  | exact SV.le.of_eq (by simp)) (Slots.cons rfl (by first | exact .refl _ | exact .nilOwn _ _ | exact .nilSl _ | exact .ownSl _ _ _  | exact SV.le.of_eq (by simp)) Slots.nil))))))), (by first | exact List.Sublist.refl _ | exact .cons_cons _ (.cons _ (.refl _)) | exact List.nil_sublist _ | exact .cons _ (.refl _) | exact .cons _ (.cons _ (.refl _)) | exact .cons _ (.cons _ (.cons _ (.refl _))) | exact .cons _ (.cons _ (.cons _ (.cons _ (.refl _)))) | exact .cons_cons _ (List.nil_sublist _))⟩ ⟨0, rfl, rfl, Nat.zero_le _, (fun j h => by omega)⟩ ?_
   rintro nn0 _ ⟨i, rfl, rfl, hi, hno⟩
   refine awp_seq ?_
   refine awp_region ?_
   refine r_cmp rfl rfl rfl rfl ?_
   refine awl_nil ?_
   refine x_then ?_
   refine awp_seq ?_
   refine awp_cond rfl (fun hc2 => ?_) (fun hc2 => ?_)
   ·
    have hltx : i < ks.length := by have := of_decide_eq_true hc2; simpa using this
    obtain ⟨x, hx⟩ := get_lt hltx
    refine awp_skip ?_
    refine x_then ?_
    refine awp_seq ?_
    refine awp_block ?_
    refine awp_seq ?_
    refine awp_region ?_
    refine r_move rfl rfl ?_
    refine r_index rfl rfl rfl TF.sl112 TF.sz73 (by omega) (get_map hx) rfl ?_
    first | (refine r_loadA rfl TF.agg73 TF.sz73 rfl rfl ?_) | (refine r_loadAb 0 rfl rfl TF.agg73 TF.sz73 rfl rfl ?_) | (refine r_loadAb 1 rfl rfl TF.agg73 TF.sz73 rfl rfl ?_)
    refine r_alloc TF.zero73 rfl (fun b7 => ?_)
    refine r_assign rfl rfl ?_
    first | (refine r_store 0 rfl rfl rfl TF.sz73 rfl rfl rfl ?_) | (refine r_store 1 rfl rfl rfl TF.sz73 rfl rfl rfl ?_) | (refine r_store 2 rfl rfl rfl TF.sz73 rfl rfl rfl ?_)
    refine awl_nil ?_
    refine x_then ?_
    refine awp_seq ?_
    refine awp_region ?_
    first | (refine r_loadA rfl TF.agg73 TF.sz73 rfl rfl ?_) | (refine r_loadAb 0 rfl rfl TF.agg73 TF.sz73 rfl rfl ?_) | (refine r_loadAb 1 rfl rfl TF.agg73 TF.sz73 rfl rfl ?_) | (refine r_loadAb 2 rfl rfl TF.agg73 TF.sz73 rfl rfl ?_)
    first | (refine r_loadA rfl TF.agg73 TF.sz73 rfl rfl ?_) | (refine r_loadAb 0 rfl rfl TF.agg73 TF.sz73 rfl rfl ?_) | (refine r_loadAb 1 rfl rfl TF.agg73 TF.sz73 rfl rfl ?_) | (refine r_loadAb 2 rfl rfl TF.agg73 TF.sz73 rfl rfl ?_)
    refine r_call0 hq rfl rfl (.cons (.ev rfl rfl) (.cons (.ev rfl rfl) .nil)) (order_okT x k) rfl TF.en64 rfl (fun r hr => ?_)
    obtain rfl := hr
    refine r_assign rfl rfl ?_
    refine awl_nil ?_
    refine x_then ?_
    refine awp_seq ?_
    refine awp_region ?_
    refine r_move rfl rfl ?_
    refine r_cmp rfl rfl rfl rfl ?_
    refine awl_nil ?_
    refine x_then ?_
    refine awp_cond rfl (fun hc3 => ?_) (fun hc3 => ?_)
    ·
     have h0 : 0 ≤ x.ord k := of_decide_eq_true hc3
     have hfh := findL_hit hx hno h0
     refine awp_seq ?_
     refine awp_region ?_
     refine r_move rfl rfl ?_
     refine r_move rfl rfl ?_
     refine r_cmp rfl rfl rfl rfl ?_
     first | (refine r_store 0 rfl rfl rfl TF.sz3 rfl rfl rfl ?_) | (refine r_store 1 rfl rfl rfl TF.sz3 rfl rfl rfl ?_) | (refine r_store 2 rfl rfl rfl TF.sz3 rfl rfl rfl ?_)
     first | (refine r_store 0 rfl rfl rfl TF.sz4 rfl rfl rfl ?_) | (refine r_store 1 rfl rfl rfl TF.sz4 rfl rfl rfl ?_) | (refine r_store 2 rfl rfl rfl TF.sz4 rfl rfl rfl ?_)
     refine awl_nil ?_
     refine x_then ?_
     refine awp_ret ?_
     refine x_blockR ?_
     refine x_thenR ?_
     refine x_thenR ?_
     refine x_blockR ?_
     refine x_thenR ?_
     refine x_thenR ?_
     exact ⟨(.inl rfl), _, [], ⟨_, _, (by first | exact .one 0 rfl rfl TF.agg3 | exact .one 1 rfl rfl TF.agg3 | exact .one 2 rfl rfl TF.agg3 | exact .one 3 rfl rfl TF.agg3 | exact .one 4 rfl rfl TF.agg3 | exact .one 5 rfl rfl TF.agg3), (by first | exact .one 0 rfl rfl TF.agg4 | exact .one 1 rfl rfl TF.agg4 | exact .one 2 rfl rfl TF.agg4 | exact .one 3 rfl rfl TF.agg4 | exact .one 4 rfl rfl TF.agg4 | exact .one 5 rfl rfl TF.agg4), rfl⟩, ⟨rfl, by rw [findN, if_pos rfl, hfh]; rfl⟩, (List.nil_sublist _), (by simp)⟩
    ·
     have h0 : ¬ 0 ≤ x.ord k := of_decide_eq_false hc3
     refine awp_skip ?_
     refine x_block ?_
     refine x_then ?_
     refine awp_region ?_
     refine r_ari _ rfl rfl rfl (wrap_id (by first | omega | (simp; omega))) rfl ?_
     refine r_move rfl rfl ?_
     refine awl_nil ?_
     refine x_then ?_
     refine ⟨ks.length - (i + 1), ⟨55, [(0, .a (ndA b ks vs kd)), (3, .a (.cp k.cs)), (4, .a (.v (.pointer (some ⟨b4, 0, none⟩)))), (5, .a (.v (.pointer (some ⟨b5, 0, none⟩)))), (19, .a (.sl 4 (ks.map Sp.cs))), (20, .a (.v (.int .i64 (((ks.map Sp.cs).length : Nat))))), (21, .a (.v (.int .i64 (((i + 1) : Int)))))], [⟨b5, true, .box [.v (.bool (false))]⟩, ⟨b4, true, .box [.v (.int .i64 (0))]⟩]⟩, ⟨rfl, (Slots.cons rfl (by first | exact .refl _ | exact .nilOwn _ _ | exact .nilSl _ | exact .ownSl _ _ _  | exact SV.le.of_eq (by simp)) (Slots.cons rfl (by first | exact .refl _ | exact .nilOwn _ _ | exact .nilSl _ | exact .ownSl _ _ _  | exact SV.le.of_eq (by simp)) (Slots.cons rfl (by first | exact .refl _ | exact .nilOwn _ _ | exact .nilSl _ | exact .ownSl _ _ _  | exact SV.le.of_eq (by simp)) (Slots.cons rfl (by first | exact .refl _ | exact .nilOwn _ _ | exact .nilSl _ | exact .ownSl _ _ _  | exact SV.le.of_eq (by simp)) (Slots.cons rfl (by first | exact .refl _ | exact .nilOwn _ _ | exact .nilSl _ | exact .ownSl _ _ _  | exact SV.le.of_eq (by simp)) (Slots.cons rfl (by first | exact .refl _ | exact .nilOwn _ _ | exact .nilSl _ | exact .ownSl _ _ _  | exact SV.le.of_eq (by simp)) (Slots.cons rfl (by first | exact .refl _ | exact .nilOwn _ _ | exact .nilSl _ | exact .ownSl _ _ _  | exact SV.le.of_eq (by simp)) Slots.nil))))))), (by first | exact List.Sublist.refl _ | exact .cons_cons _ (.cons _ (.refl _)) | exact List.nil_sublist _ | exact .cons _ (.refl _) | exact .cons _ (.cons _ (.refl _)) | exact .cons _ (.cons _ (.cons _ (.refl _))) | exact .cons _ (.cons _ (.cons _ (.cons _ (.refl _)))) | exact .cons_cons _ (List.nil_sublist _))⟩, (by omega), ⟨i + 1, rfl, rfl, (by omega), (fun j hj y hy => by rcases Nat.lt_succ_iff_lt_or_eq.1 hj with h | h; exact hno j h y hy; subst h; rw [hx] at hy; cases hy; exact h0)⟩⟩
   ·
    have hge : ks.length ≤ i := by have := of_decide_eq_false hc2; simp at this; omega
    have hfe := findL_end (k := k) (l := ks) (fun j hj => hno j (by omega))
    refine awp_exit ?_
    refine x_thenE ?_
    refine x_thenE ?_
    refine x_blockE ?_
    refine x_then ?_
    refine awp_seq ?_
    refine awp_region ?_
    refine r_move rfl rfl ?_
    refine r_nilCheck rfl (by first | exact .pt _ _ | exact .v _ | exact .cp _) rfl ?_
    first | (refine r_fieldcp rfl TF.f115_0 TF.sz112 rfl ?_) | (refine r_fieldpt rfl TF.f115_0 TF.sz112 rfl ?_) | (refine r_fieldb rfl TF.f115_0 TF.sz112 rfl ?_)
    first | (refine r_load1 rfl TF.agg112 rfl ?_) | (refine r_load1b 0 rfl rfl rfl TF.agg112 rfl ?_) | (refine r_load1b 1 rfl rfl rfl TF.agg112 rfl ?_)
    first | (refine r_lenS rfl rfl TF.sl112 rfl ?_) | (refine r_lenNil rfl TF.sl112 rfl ?_) | (refine r_lenV rfl TF.sl112 rfl ?_)
    first | (refine r_store 0 rfl rfl rfl TF.sz3 rfl rfl rfl ?_) | (refine r_store 1 rfl rfl rfl TF.sz3 rfl rfl rfl ?_)
    first | (refine r_store 0 rfl rfl rfl TF.sz4 rfl rfl rfl ?_) | (refine r_store 1 rfl rfl rfl TF.sz4 rfl rfl rfl ?_)
    refine awl_nil ?_
    refine x_then ?_
    refine awp_ret ?_
    refine x_thenR ?_
    exact ⟨(.inl rfl), _, [], ⟨_, _, (by first | exact .one 0 rfl rfl TF.agg3 | exact .one 1 rfl rfl TF.agg3 | exact .one 2 rfl rfl TF.agg3 | exact .one 3 rfl rfl TF.agg3 | exact .one 4 rfl rfl TF.agg3 | exact .one 5 rfl rfl TF.agg3), (by first | exact .one 0 rfl rfl TF.agg4 | exact .one 1 rfl rfl TF.agg4 | exact .one 2 rfl rfl TF.agg4 | exact .one 3 rfl rfl TF.agg4 | exact .one 4 rfl rfl TF.agg4 | exact .one 5 rfl rfl TF.agg4), rfl⟩, ⟨rfl, by rw [findN, if_pos rfl, hfe]; simp; rfl⟩, (List.nil_sublist _), (by simp)⟩
  ·
   have he : kd.isEmpty = false := hc1
   rw [he]
   refine awp_skip ?_
   refine x_then ?_
   refine awp_seq ?_
   refine awp_seq ?_
   refine awp_region ?_
   refine r_move rfl rfl ?_
   refine r_nilCheck rfl (by first | exact .pt _ _ | exact .v _ | exact .cp _) rfl ?_
   first | (refine r_fieldcp rfl TF.f115_0 TF.sz112 rfl ?_) | (refine r_fieldpt rfl TF.f115_0 TF.sz112 rfl ?_) | (refine r_fieldb rfl TF.f115_0 TF.sz112 rfl ?_)
   first | (refine r_load1 rfl TF.agg112 rfl ?_) | (refine r_load1b 0 rfl rfl rfl TF.agg112 rfl ?_) | (refine r_load1b 1 rfl rfl rfl TF.agg112 rfl ?_) | (refine r_load1b 2 rfl rfl rfl TF.agg112 rfl ?_)
   refine r_call0 hq rfl rfl (.cons (.ev rfl rfl) .nil) (back_okT ks) rfl TF.en65 rfl (fun r hr => ?_)
   obtain rfl := hr
   refine awl_nil ?_
   refine x_then ?_
   refine awp_block ?_
   refine awp_rangeFuncS (fun pre wo => wo = [⟨b5, true, .box [.v (.bool (false))]⟩, ⟨b4, true, .box [.v (.int .i64 (0))]⟩] ∧ pre.length ≤ ks.length ∧ findR k ks ks.length = findR k ks (ks.length - pre.length)) (fun c pre wo => c = .ret ∧ ∃ (i : Nat) (z : Int) (bb : Bool), z = (i : Int) ∧ wo = [⟨b5, true, .box [.v (.bool (bb))]⟩, ⟨b4, true, .box [.v (.int .i64 (z))]⟩] ∧ findR k ks ks.length = (i, bb)) [(3, .a (.cp k.cs)), (4, .a (.v (.pointer (some ⟨b4, 0, none⟩)))), (5, .a (.v (.pointer (some ⟨b5, 0, none⟩))))] [true, true] hq rfl (back1_okT ks hl) TF.en79 (fun pre x ⟨s, _, h⟩ => by subst h; rfl) rfl rfl rfl (by first | exact List.Sublist.refl _ | exact .cons_cons _ (.cons _ (.refl _)) | exact List.nil_sublist _ | exact .cons _ (.refl _) | exact .cons _ (.cons _ (.refl _)) | exact .cons _ (.cons _ (.cons _ (.refl _))) | exact .cons _ (.cons _ (.cons _ (.cons _ (.refl _)))) | exact .cons_cons _ (List.nil_sublist _)) (Slots.cons rfl (by first | exact .refl _ | exact .nilOwn _ _ | exact .nilSl _ | exact .ownSl _ _ _  | exact SV.le.of_eq (by simp)) (Slots.cons rfl (by first | exact .refl _ | exact .nilOwn _ _ | exact .nilSl _ | exact .ownSl _ _ _  | exact SV.le.of_eq (by simp)) (Slots.cons rfl (by first | exact .refl _ | exact .nilOwn _ _ | exact .nilSl _ | exact .ownSl _ _ _  | exact SV.le.of_eq (by simp)) Slots.nil))) rfl rfl ⟨rfl, Nat.zero_le _, by simp⟩ ?_ ?_ ?_
   ·
    intro lr pre x wo rec busy w0 C0 hq hj hax
    obtain ⟨rfl, hpl, hpf⟩ := hj
    obtain ⟨x, hxr, rfl⟩ := hax
    obtain ⟨hkl, hx⟩ := rev_getS hxr
    refine awpi_seq ?_
    refine awpi_region ?_
    refine awli_op (fun c h => (by cases h)) ?_
    refine r_assign rfl rfl ?_
    refine awl_nil ⟨rfl, ?_⟩
    refine awli_nil ?_
    refine x_then ?_
    refine awpi_region ?_
    refine awli_op (fun c h => (by cases h)) ?_
    refine r_alloc TF.zero73 rfl (fun b10 => ?_)
    refine awl_nil ⟨rfl, ?_⟩
    refine awli_op (fun c h => (by cases h)) ?_
    first | (refine r_store 0 rfl rfl rfl TF.sz73 rfl rfl rfl ?_) | (refine r_store 1 rfl rfl rfl TF.sz73 rfl rfl rfl ?_) | (refine r_store 2 rfl rfl rfl TF.sz73 rfl rfl rfl ?_) | (refine r_store 3 rfl rfl rfl TF.sz73 rfl rfl rfl ?_)
    refine awl_nil ⟨rfl, ?_⟩
    refine awli_nil ?_
    refine ⟨rfl, 3, rfl, ?_⟩
    refine awpi_block ?_
    refine awpi_seq ?_
    refine awpi_region ?_
    refine awli_op (fun c h => (by cases h)) ?_
    first | (refine r_loadA rfl TF.agg73 TF.sz73 rfl rfl ?_) | (refine r_loadAb 0 rfl rfl TF.agg73 TF.sz73 rfl rfl ?_) | (refine r_loadAb 1 rfl rfl TF.agg73 TF.sz73 rfl rfl ?_) | (refine r_loadAb 2 rfl rfl TF.agg73 TF.sz73 rfl rfl ?_) | (refine r_loadAb 3 rfl rfl TF.agg73 TF.sz73 rfl rfl ?_)
    refine awl_nil ⟨rfl, ?_⟩
    refine awli_op (fun c h => (by cases h)) ?_
    first | (refine r_loadA rfl TF.agg73 TF.sz73 rfl rfl ?_) | (refine r_loadAb 0 rfl rfl TF.agg73 TF.sz73 rfl rfl ?_) | (refine r_loadAb 1 rfl rfl TF.agg73 TF.sz73 rfl rfl ?_) | (refine r_loadAb 2 rfl rfl TF.agg73 TF.sz73 rfl rfl ?_) | (refine r_loadAb 3 rfl rfl TF.agg73 TF.sz73 rfl rfl ?_)
    refine awl_nil ⟨rfl, ?_⟩
    refine awli_op (fun c h => (by cases h)) ?_
    refine r_call0 hq rfl rfl (.cons (.ev rfl rfl) (.cons (.ev rfl rfl) .nil)) (order_okT x k) rfl TF.en64 rfl (fun r hr => ?_)
    obtain rfl := hr
    refine awl_nil ⟨rfl, ?_⟩
    refine awli_op (fun c h => (by cases h)) ?_
    refine r_assign rfl rfl ?_
    refine awl_nil ⟨rfl, ?_⟩
    refine awli_nil ?_
    refine x_then ?_
    refine awpi_seq ?_
    refine awpi_region ?_
    refine awli_op (fun c h => (by cases h)) ?_
    refine r_move rfl rfl ?_
    refine awl_nil ⟨rfl, ?_⟩
    refine awli_op (fun c h => (by cases h)) ?_
    refine r_cmp rfl rfl rfl rfl ?_
    refine awl_nil ⟨rfl, ?_⟩
    refine awli_nil ?_
    refine x_then ?_
    refine awpi_cond rfl (fun hc4 => ?_) (fun hc4 => ?_)
    ·
     have h0 : x.ord k ≤ 0 := of_decide_eq_true hc4
     refine awpi_seq ?_
     refine awpi_region ?_
     refine awli_op (fun c h => (by cases h)) ?_
     refine r_move rfl rfl ?_
     refine awl_nil ⟨rfl, ?_⟩
     refine awli_op (fun c h => (by cases h)) ?_
     refine r_move rfl rfl ?_
     refine awl_nil ⟨rfl, ?_⟩
     refine awli_op (fun c h => (by cases h)) ?_
     refine r_cmp rfl rfl rfl rfl ?_
     refine awl_nil ⟨rfl, ?_⟩
     refine awli_op (fun c h => (by cases h)) ?_
     first | (refine r_store 0 rfl rfl rfl TF.sz3 rfl rfl rfl ?_) | (refine r_store 1 rfl rfl rfl TF.sz3 rfl rfl rfl ?_) | (refine r_store 2 rfl rfl rfl TF.sz3 rfl rfl rfl ?_) | (refine r_store 3 rfl rfl rfl TF.sz3 rfl rfl rfl ?_)
     refine awl_nil ⟨rfl, ?_⟩
     refine awli_op (fun c h => (by cases h)) ?_
     first | (refine r_store 0 rfl rfl rfl TF.sz4 rfl rfl rfl ?_) | (refine r_store 1 rfl rfl rfl TF.sz4 rfl rfl rfl ?_) | (refine r_store 2 rfl rfl rfl TF.sz4 rfl rfl rfl ?_) | (refine r_store 3 rfl rfl rfl TF.sz4 rfl rfl rfl ?_)
     refine awl_nil ⟨rfl, ?_⟩
     refine awli_nil ?_
     refine x_then ?_
     refine awpi_ret ?_
     refine x_blockR ?_
     refine ⟨[⟨b5, true, .box [.v (.bool (x.ord k == 0))]⟩, ⟨b4, true, .box [.v (.int .i64 ((ks.length : Int) - 1 - (pre.length : Int)))]⟩], .inr ⟨_, .ret, rfl, ks.length - 1 - pre.length, _, _, by omega, rfl, ?_⟩, ?_, by simp⟩
     · rw [hpf, show ks.length - pre.length = ks.length - 1 - pre.length + 1 by omega, findR_hit hx h0]; first | rfl | simp
     · first | exact List.Sublist.refl _ | exact .cons_cons _ (.cons _ (.refl _)) | exact List.nil_sublist _ | exact .cons _ (.refl _) | exact .cons _ (.cons _ (.refl _)) | exact .cons _ (.cons _ (.cons _ (.refl _))) | exact .cons _ (.cons _ (.cons _ (.cons _ (.refl _)))) | exact .cons_cons _ (List.nil_sublist _)
    ·
     have h0 : ¬ x.ord k ≤ 0 := of_decide_eq_false hc4
     refine awpi_skip ?_
     refine x_block ?_
     refine ⟨_, .inl ⟨rfl, rfl, by simp; omega, ?_⟩, ?_, by simp⟩
     · rw [hpf, show ks.length - pre.length = ks.length - 1 - pre.length + 1 by omega, findR_step hx h0]; simp; congr 1; omega
     · first | exact List.Sublist.refl _ | exact .cons_cons _ (.cons _ (.refl _)) | exact List.nil_sublist _ | exact .cons _ (.refl _) | exact .cons _ (.cons _ (.refl _)) | exact .cons _ (.cons _ (.cons _ (.refl _))) | exact .cons _ (.cons _ (.cons _ (.cons _ (.refl _)))) | exact .cons_cons _ (List.nil_sublist _)
   ·
    intro xs wo' hG hJ
    obtain ⟨rfl, hpl, hpf⟩ := hJ
    rw [hG, Nat.sub_self] at hpf
    refine x_block ?_
    refine x_then ?_
    refine awp_seq ?_
    refine awp_region ?_
    first | (refine r_store 0 rfl rfl rfl TF.sz3 rfl rfl rfl ?_) | (refine r_store 1 rfl rfl rfl TF.sz3 rfl rfl rfl ?_)
    first | (refine r_store 0 rfl rfl rfl TF.sz4 rfl rfl rfl ?_) | (refine r_store 1 rfl rfl rfl TF.sz4 rfl rfl rfl ?_)
    refine awl_nil ?_
    refine x_then ?_
    refine awp_ret ?_
    exact ⟨(.inl rfl), _, [], ⟨_, _, (by first | exact .one 0 rfl rfl TF.agg3 | exact .one 1 rfl rfl TF.agg3 | exact .one 2 rfl rfl TF.agg3 | exact .one 3 rfl rfl TF.agg3 | exact .one 4 rfl rfl TF.agg3 | exact .one 5 rfl rfl TF.agg3), (by first | exact .one 0 rfl rfl TF.agg4 | exact .one 1 rfl rfl TF.agg4 | exact .one 2 rfl rfl TF.agg4 | exact .one 3 rfl rfl TF.agg4 | exact .one 4 rfl rfl TF.agg4 | exact .one 5 rfl rfl TF.agg4), rfl⟩, ⟨rfl, by rw [findN, if_neg (by simp), hpf]; rfl⟩, (List.nil_sublist _), (by simp)⟩
   ·
    intro c xs wo' hX
    obtain ⟨rfl, i, z, bb, rfl, rfl, hfr⟩ := hX
    refine awp_ret ?_
    refine x_blockR ?_
    refine x_thenR ?_
    exact ⟨(.inl rfl), _, [], ⟨_, _, (by first | exact .one 0 rfl rfl TF.agg3 | exact .one 1 rfl rfl TF.agg3 | exact .one 2 rfl rfl TF.agg3 | exact .one 3 rfl rfl TF.agg3 | exact .one 4 rfl rfl TF.agg3 | exact .one 5 rfl rfl TF.agg3), (by first | exact .one 0 rfl rfl TF.agg4 | exact .one 1 rfl rfl TF.agg4 | exact .one 2 rfl rfl TF.agg4 | exact .one 3 rfl rfl TF.agg4 | exact .one 4 rfl rfl TF.agg4 | exact .one 5 rfl rfl TF.agg4), rfl⟩, ⟨rfl, by rw [findN, if_neg (by simp), hfr]; rfl⟩, (List.nil_sublist _), (by simp)⟩
end Go.Proofs.Ytpkodkoooaldlaa.A

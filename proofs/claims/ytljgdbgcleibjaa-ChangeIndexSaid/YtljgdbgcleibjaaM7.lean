import Derived.WalkKit
import Derived.Below
import Derived.Laws.Rows
import Derived.Laws.CopyRow
import Derived.Laws.AppendOwn
import Derived.RangeFuncLeaves
import Derived.RangeFuncSeq
import Derived.RangeFuncCalls
import Derived.MapKept
import Derived.Orders
import Derived.Laws.IdiomStrings
import Derived.Laws.BytesArg
import Derived.Shelf.SlIter.Nil
import Derived.RangeFuncBound
import Derived.Maps.RangeRun
import Derived.DeepKeys3
import Derived.Laws.StructEq
import Derived.Shelf.SlSortCmp.NoneTotal
import Derived.ChangeKeysEq
import Derived.Laws.MakeOwn
import Derived.ChangeArms
import Derived.ChangeOld
import Derived.Laws.DeepStrings4
import Derived.OpenShut
import Derived.Test.YtljgdbgcleibjaaProg
import Derived.KernelRfl
import Derived.OrdersIn
import Derived.Lib.AppendZeros
import Derived.Lib.AppendZerosOnto
import Derived.Lib.Overlaps
import Derived.Deep.AppendSrc
import Derived.Shelf.SlGeneric
import Derived.Ground.SlsfProg
import Derived.Scope
import Derived.Test.YtljgdbgcleibjaaM6
namespace Go.Proofs.Ytljgdbgcleibjaa.A
open Go Go.RowKit
set_option linter.unusedVariables false
set_option linter.unusedSimpArgs false
set_option linter.unusedSectionVars false
variable {P : Program} {w0 : Base} {C0 C : CS} {T : TS} {S S' : AState} {a : Act} {w : World} {ops : Array Oper} {rest : List Oper} {o : Oper} {Q : Exit → AState → Prop}
variable {t : Nat} {ty ty' : TypeId} {pos : String} {aft : Array Edge} {rn : Option Nat}
def XScope (Q : Exit → AState → Prop) : Exit → AState → Prop
  | .goto _, _ => False
  | e, S => Q e S
theorem awp_scope {c : Code} (h : AWP P w0 C0 c (XScope Q) S) : AWP P w0 C0 (.scope c) Q S := fun a w hs => wp_scope_straight (wp_mono (h a w hs) (by
  rintro e a' w' ⟨S1, h1, hq⟩
  cases e with
  | goto l => exact hq
  | _ => exact ⟨S1, h1, hq⟩))
theorem x_scopeR (h : Q .ret S) : XScope Q .ret S := h
theorem gi_run {d : Option Nat} {op : Op} {j t' : Nat} {want b : Bool} (hj : (ops[j]?).bind (·.dst) = some t') (hs : S.get t' = some (.a (.v (.bool b)))) (hb : b = want)
    (h : AWLI rn P w0 C0 ops (⟨d, op, ty, pos, aft, none⟩ :: rest) Q S) : AWLI rn P w0 C0 ops (⟨d, op, ty, pos, aft, some (j, want)⟩ :: rest) Q S := by
  rintro a w ⟨C, T, hs'⟩
  have hy := yielded_of hs' hj hs
  have := h a w ⟨C, T, hs'⟩
  unfold wpListIn at this ⊢
  have e1 : Region.wanted (⟨d, op, ty, pos, aft, none⟩ : Oper) (yielded ops a.tmps) = true := rfl
  have e2 : Region.wanted (⟨d, op, ty, pos, aft, some (j, want)⟩ : Oper) (yielded ops a.tmps) = true := by simp [Region.wanted, hy, hb]
  rw [if_pos e1] at this
  rw [if_pos e2]
  exact this
theorem r_yieldSI {x : Operand} {xs : List Operand} {xa : Array Operand} {tys : Array TypeId} {l : Nat} {args : List AV} {wo un : List OE} {R : Bool → List OE → Prop} (hq : w0.q = false) (mk : List OE → List OE) (hx : S.ev x = some (.a (.v (.func (.yield l) #[] #[])))) (hxa : xa = xs.toArray) (hargs : Args S xs args)
    (Cs : CS) (hcs : CsOk Cs w0 C0) (hy : YCs Cs P l args wo R) (hp : (Tr wo ++ un).Perm S.objs) (hmk : ∀ nobjs, (Tr nobjs ++ un).Perm (mk nobjs)) (ht : Nat.blt t S.nt = true)
    (hr : ∀ bb nobjs, R bb nobjs → AWLI rn P w0 C0 ops rest Q (AState.put ⟨S.nt, S.slots, mk nobjs⟩ t (.a (.v (.bool bb))))) :
    AWLI rn P w0 C0 ops (⟨some t, .call ⟨.value x, xa, tys⟩, ty, pos, aft, none⟩ :: rest) Q S := by
  rintro a w ⟨C, T, hs⟩
  subst hxa
  have hf := hs.evv hx
  have hap : (Tr wo ++ un).Pairwise (fun e e' => e.b ≠ e'.b) := (hp.pairwise_iff (fun h => fun e => h e.symm)).2 hs.apart
  have hobjs : Objs C (Tr wo) w := ⟨fun e he => by have := hs.objs e (hp.mem_iff.1 (List.mem_append.2 (.inl he))); exact ⟨this.1, this.2.1⟩, (List.pairwise_append.1 hap).1⟩
  obtain ⟨fn, tmps, assign, body, hrun, hround⟩ := hy.tr C w (xs.map a.eval).toArray (fun b o v hc => by obtain ⟨h1, h2, h3⟩ := hcs b o v hc; rw [hs.old b o h2 h3]; exact h1) ⟨hs.com, hs.one⟩ (by simpa using hargs.rels hs) hobjs
  have hexec : (execOp a.eval ⟨some t, .call ⟨.value x, xs.toArray, tys⟩, ty, pos, aft, none⟩).run P w = .ok (.round l fn tmps assign body) w := by
    simp [execOp, resolve, invoke, hf, Deferred.ofValue, Sem.run_bind, hrun]
  unfold wpListIn
  rw [if_pos (by simp [Region.wanted])]
  refine ⟨fun _ _ => trivial, ?_⟩
  rw [Oper.semAt_eq _ _ _ (fun c h => by cases h), hexec]
  refine ⟨fun h => by simp [Fr, Fence.wide] at h, (RoundIn.mono (F := Fr rn) hround ?_)⟩
  rintro e w' ⟨bb, rfl, C', nobjs, hR, hb, hC, hcom, hn, hnb⟩
  have hs' := hs.calledW hp (fun e he => by obtain ⟨e0, _, rfl⟩ := List.mem_map.1 he; rfl) hb (fun h => by rw [hq] at h; cases h) hC hcom hn hnb
  have hperm := hmk nobjs
  have hs2 : SimC w0 C0 C' T ⟨S.nt, S.slots, mk nobjs⟩ a w' := ⟨hs'.below, hs'.com, hs'.one, hs'.old, fun e he => hs'.objs e (hperm.mem_iff.2 he), (hperm.pairwise_iff (fun h => fun e => h e.symm)).1 hs'.apart,
    fun t k hk => ⟨(hs'.toks t k hk).1, fun e he => (hs'.toks t k hk).2 e (hperm.mem_iff.2 he)⟩, hs'.tokne, hs'.size, hs'.slots, hs'.defers, hs'.dr⟩
  exact hr bb nobjs hR _ _ ⟨C', T, hs2.put ht (srel_v _)⟩
theorem AWC.tr {Cs : CS} {f : FuncId} {args : List AV} {rd wo : List OE} {R : AV → List OE → Prop} (h : AWC Cs P f args rd wo R) : AWC Cs P f args rd (Tr wo) R := by
  have e : WB (Tr wo) = WB wo := funext fun b => propext wb_tr
  intro C w vals h0 h1 h2 h3
  rw [e]
  refine h C w vals h0 h1 h2 ⟨fun e he => ?_, ?_⟩
  · rcases List.mem_append.1 he with he | he
    · exact h3.1 e (List.mem_append.2 (.inl he))
    · have := h3.1 { e with rw := true } (List.mem_append.2 (.inr (List.mem_map.2 ⟨e, he, rfl⟩)))
      exact this
  · have : (rd ++ Tr wo).map (·.b) = (rd ++ wo).map (·.b) := by simp [Tr, Function.comp_def]
    exact List.pairwise_map.1 (this ▸ List.pairwise_map.2 h3.2)
theorem r_callPC (hq : w0.q = false) (Cs : CS) (hcs : CsOk Cs w0 C0) {x : Operand} {xs : List Operand} {xa : Array Operand} {tys : Array TypeId} {f : FuncId} {caps args args' : List AV} {rd wo un : List OE} {R : AV → List OE → Prop} (hx : S.ev x = some (.a (.fn f caps))) (hxa : xa = xs.toArray) (hargs : Args S xs args) (hc : AWC Cs P f args' rd wo R) (he : args' = args ++ caps)
    (hen : entersT P f) (hp : (Tr wo ++ un).Perm S.objs) (hrd : (ro rd).Sublist (ro un)) (ht : Nat.blt t S.nt = true)
    (hr : ∀ r nobjs, R r nobjs → AWL P w0 C0 ops rest Q (AState.put ⟨S.nt, S.slots, Tr nobjs ++ un⟩ t (.a r))) :
    AWL P w0 C0 ops (⟨some t, .call ⟨.value x, xa, tys⟩, ty, pos, aft, none⟩ :: rest) Q S := by
  rintro a w ⟨C, T, hs⟩
  subst hxa he
  have hf := hs.ev hx
  generalize hv : a.eval x = u at hf
  obtain ⟨arr, rfl⟩ : ∃ arr, u = .func (.func f) #[] arr := by cases hf; exact ⟨_, rfl⟩
  have hcaps := rel_fn.1 hf
  have hrels := (hargs.rels hs).append hcaps
  have hrun : (execOp a.eval ⟨some t, .call ⟨.value x, xs.toArray, tys⟩, ty, pos, aft, none⟩).run P w = .ok (.enter f (xs.map a.eval ++ arr.toList).toArray) w := by
    have : (xs.map a.eval ++ arr.toList).toArray = (xs.map a.eval).toArray ++ arr := by apply Array.ext'; simp
    rw [this]
    simp [execOp, resolve, invoke, hv, Deferred.ofValue, hen ((xs.map a.eval).toArray ++ arr) w]
  have hap : (Tr wo ++ un).Pairwise (fun e e' => e.b ≠ e'.b) := (hp.pairwise_iff (fun h => fun e => h e.symm)).2 hs.apart
  have hrom : ∀ e ∈ rd, ∃ e' ∈ un, e'.b = e.b ∧ e'.o = e.o := fun e he => by
    have := hrd.mem (List.mem_map.2 ⟨e, he, rfl⟩ : ({ e with rw := false } : OE) ∈ ro rd)
    obtain ⟨e', h1, h2⟩ := List.mem_map.1 this
    injection h2 with h3 _ h4
    exact ⟨e', h1, h3, h4⟩
  have hobjs : Objs C (rd ++ Tr wo) w := by
    obtain ⟨h1, h2, h3⟩ := List.pairwise_append.1 hap
    refine ⟨fun e he => ?_, ?_⟩
    · rcases List.mem_append.1 he with h | h
      · obtain ⟨e', k1, k2, k3⟩ := hrom e h
        have := hs.objs e' (hp.mem_iff.1 (List.mem_append.2 (.inr k1)))
        rw [k2, k3] at this
        exact ⟨this.1, this.2.1⟩
      · have := hs.objs e (hp.mem_iff.1 (List.mem_append.2 (.inl h)))
        exact ⟨this.1, this.2.1⟩
    · refine List.pairwise_append.2 ⟨?_, h1, fun e he e' he' h => ?_⟩
      · have k1 : (ro un).Pairwise (fun e e' => e.b ≠ e'.b) := List.pairwise_map.2 h2
        have k2 : (ro rd).Pairwise (fun e e' => e.b ≠ e'.b) := k1.sublist hrd
        unfold ro at k2; have k3 := List.pairwise_map.1 k2; exact k3
      · obtain ⟨e0, k1, k2, k3⟩ := hrom e he
        exact h3 e' he' e0 k1 (by rw [k2]; exact h.symm)
  refine wpList_plain rfl (fun K hK => ?_)
  unfold Oper.wp
  rw [hrun]
  refine (hc.tr C w (xs.map a.eval ++ arr.toList).toArray (fun b o v hc => by obtain ⟨h1, h2, h3⟩ := hcs b o v hc; rw [hs.old b o h2 h3]; exact h1) ⟨hs.com, hs.one⟩ (by simpa using hrels) hobjs).mono ?_
  rintro e w' ⟨v, C', r, nobjs, rfl, hR, hb, hC, hcom, hrel, hn, hnb⟩
  exact hK _ _ (hr r nobjs hR _ _ ⟨C', T, (hs.calledW hp (fun e he => by obtain ⟨e0, _, rfl⟩ := List.mem_map.1 he; rfl) hb (fun h => by rw [hq] at h; cases h) hC hcom hn hnb).put ht hrel⟩)
section
variable {K α : Type} [DecidableEq K] {ek : K → Value} {ev : α → AV} {kt et : TypeId}
theorem r_deleteK (i : Nat) (KE : KeyEnc P kt ek) {x y : Operand} {sy : SV} {b : Nat} {m : List (K × α)} {k : K} {mt kty : TypeId} (hx : S.ev x = some (.a (.v (.map (some b))))) (hi : S.objs[i]? = some ⟨b, true, .map (encM ek ev m)⟩) (hy : S.ev y = some sy) (hyk : IsVal sy.av (ek k)) (hmt : mapT P mt = some (kt, et))
    (hr : AWL P w0 C0 ops rest Q ⟨S.nt, S.slots, S.objs.set i ⟨b, true, .map (encM ek ev (mdel m k))⟩⟩) : AWL P w0 C0 ops (⟨none, .call ⟨.builtin .delete, #[x, y], #[mt, kty]⟩, ty, pos, aft, none⟩ :: rest) Q S := by
  rintro a w ⟨C, T, hs⟩
  have hob : ObjRel C b (.map (encM ek ev m)) w := (hs.objs _ (mem_of_get hi)).1
  have hb : b < w.heap.size := hs.objlt (mem_of_get hi)
  obtain ⟨ents', clock', hrun, g1, g2, g3⟩ := run_del (ty := ty) (kty := kty) KE hmt hob k
  refine wpList_plain rfl (fun K hK => ?_)
  unfold Oper.wp
  have hexec : (execOp a.eval ⟨none, .call ⟨.builtin .delete, #[x, y], #[mt, kty]⟩, ty, pos, aft, none⟩).run P w = .ok (.value (.tuple #[])) { w with heap := w.heap.setIfInBounds b (.map ents' clock') } := by
    simp [execOp, resolve, invoke, builtin, hs.evv hx, (hyk C _).1 (hs.ev hy).av, hrun]
  rw [hexec]
  exact hK _ _ (hr _ _ ⟨C, T, hs.setObj hi (Nat.le_refl _) rfl rfl rfl (by simp) (fun j hj => by rw [Array.getElem?_setIfInBounds, if_neg (fun e : b = j => hj e.symm)]) ⟨ents', clock', by simp [hb], g1, g2, g3⟩⟩)
end
theorem tr_all (l : List OE) : (Tr l).all (·.rw) = true := by simp [Tr]
theorem set_tail {α : Type} (b x y : α) (l : List α) : (b :: (l ++ [x])).set (l.length + 1) y = b :: (l ++ [y]) := by simp
theorem get_tail {α : Type} (b x : α) (l : List α) : (b :: (l ++ [x]))[l.length + 1]? = some x := by simp
theorem awpi_objs {c : Code} {o : List OE} (h : S.objs = o) (H : AWPI rn P w0 C0 c Q ⟨S.nt, S.slots, o⟩) : AWPI rn P w0 C0 c Q S := by cases S; subst h; exact H
def Res3K (P : Program) (rv rv' rv'' : ResultVar) (S : AState) (r : AV) : Prop := ∃ c c' c'', ResK P S rv c ∧ ResK P S rv' c' ∧ ResK P S rv'' c'' ∧ r = .tup [c, c', c'']
theorem resK3_run {fn : Func} {rv rv' rv'' : ResultVar} (hr : fn.results = #[rv, rv', rv'']) : ∀ (w0 : Base) (C0 C : CS) (T : TS) (S : AState) (a : Act) (w : World) (r : AV), SimC w0 C0 C T S a w → Res3K P rv rv' rv'' S r → ∃ v, (results fn a.tmps).run P w = .ok v w ∧ Rel C r v := by
  rintro w0 C0 C T S a w r hs ⟨c, c', c'', h, h', h'', rfl⟩
  obtain ⟨v, h1, h2⟩ := h.run hs
  obtain ⟨v', h1', h2'⟩ := h'.run hs
  obtain ⟨v'', h1'', h2''⟩ := h''.run hs
  refine ⟨.tuple #[v, v', v''], ?_, rel_tup.2 (Rels.cons h2 (Rels.cons h2' (Rels.cons h2'' Rels.nil)))⟩
  have e : results fn a.tmps = (do let vs ← fn.results.mapM (resOne a.tmps); pure (if h : vs.size = 1 then vs[0] else .tuple vs)) := by
    unfold results
    congr 1
  rw [e, hr]
  simp [Sem.run_bind, h1, h1', h1'']
def RoundN (Cs0 : CS) (P : Program) (S : AState) (ps : Array Tmp) (assign body : Code) (sl : List (Nat × SV)) (JU : List (List AV) → List OE → Prop) (JX : Code → List (List AV) → List OE → Prop) (A : List (List AV) → List AV → Prop) : Prop :=
  ∀ (l : Nat) (pre : List (List AV)) (x : List AV) (wo : List OE) (rec busy : Loop) (w0 : Base) (C0 : CS), w0.q = false → CsOk Cs0 w0 C0 → JU pre wo → A pre x →
    AWPI (some l) P w0 C0 assign (fun e S1 => e = .normal ∧ ∃ i, S1.objs[i]? = some ⟨l, true, .loop rec⟩ ∧
      AWPI (some l) P w0 C0 body (fun e S' => ∃ wo' : List OE, ((e = .normal ∧ JU (pre ++ [x]) wo') ∨ ∃ c, Stop e c ∧ JX c (pre ++ [x]) wo') ∧ (wo' ++ [(⟨l, true, .loop busy⟩ : OE)]).Sublist S'.objs ∧ ∀ e ∈ wo', e.rw = true) ⟨S1.nt, S1.slots, S1.objs.set i ⟨l, true, .loop busy⟩⟩)
      (putsP ps.toList x ⟨S.nt, sl, Tr wo ++ [⟨l, true, .loop rec⟩]⟩)
theorem round_ycsN {Cs0 : CS} {ps : Array Tmp} {assign body : Code} {sl : List (Nat × SV)} {JU : List (List AV) → List OE → Prop} {JX : Code → List (List AV) → List OE → Prop} {A : List (List AV) → List AV → Prop} (hR : RoundN Cs0 P S ps assign body sl JU JX A)
    {l fn : Nat} {tmps : Array Value} {D : Nat} {Cs : CS} {Ts : TS} (hsz : tmps.size = S.nt) (hps : ps.toList.all (fun p => Nat.blt p S.nt) = true) (hA : ∀ pre x, A pre x → x.length = ps.size) (hpl : sl.all (fun p => p.2.plain) = true)
    (hcs0 : ∀ b o v, Cs0 b o = some v → Cs b o = some v) (hsl : ∀ t x, find t sl = some x → SRel Cs Ts x (tmps.getD t undef)) :
    ∀ pre x wo, JU pre wo → A pre x → ∀ (C : CS) (w : World) (vals : Array Value), Com C w → Rels C x vals.toList → Objs C (⟨l, true, .loop ⟨.ready, none, fn, tmps, ps, assign, body, D⟩⟩ :: wo) w → (∀ b o v, Cs b o = some v → C b o = some v) →
      YieldAt Fence.wide 0 P l vals w (fun e w' => ∃ (pe : Option Code) (C' : CS) (wo' : List OE), e = .returned (.bool pe.isNone) ∧ (match pe with | none => JU (pre ++ [x]) wo' | some c => JX c (pre ++ [x]) wo') ∧ BelowX w.heap.size (WB (⟨l, true, .loop ⟨.ready, none, fn, tmps, ps, assign, body, D⟩⟩ :: wo)) w w' ∧
        (∀ b o, b < w.heap.size → ¬ WB (⟨l, true, .loop ⟨.ready, none, fn, tmps, ps, assign, body, D⟩⟩ :: wo) b → C' b o = C b o) ∧ Com C' w' ∧ Objs C' (⟨l, true, .loop ⟨if pe.isNone then .ready else .done, pe, fn, tmps, ps, assign, body, D⟩⟩ :: wo') w' ∧
        ∀ e ∈ (⟨l, true, .loop ⟨if pe.isNone then .ready else .done, pe, fn, tmps, ps, assign, body, D⟩⟩ :: wo' : List OE), w.heap.size ≤ e.b ∨ WB (⟨l, true, .loop ⟨.ready, none, fn, tmps, ps, assign, body, D⟩⟩ :: wo) e.b) := by
  intro pre x wo hj hax C w vals hcom hrel hobjs hmono
  have hl : w.heap[l]? = some (.loop ⟨.ready, none, fn, tmps, ps, assign, body, D⟩) := (hobjs.1 ⟨l, true, .loop ⟨.ready, none, fn, tmps, ps, assign, body, D⟩⟩ List.mem_cons_self).1
  have hvs : vals.size = ps.size := by have := hrel.1; have := hA pre x hax; simp at *; omega
  refine ⟨fn, (ps.zip vals).foldl (fun t (p, v) => t.setIfInBounds p v) tmps, assign, body, run_yield (P := P) (args := vals) hl hvs, roundIn_of_wpIn trivial ?_⟩
  obtain ⟨rec, hrec⟩ : ∃ rec : Loop, rec = ⟨.ready, none, fn, tmps, ps, assign, body, D⟩ := ⟨_, rfl⟩
  rw [← hrec] at hl hobjs ⊢
  have hst : rec.state = .ready := by rw [hrec]
  have hpe : rec.pending = none := by rw [hrec]
  -- the state in which the round begins
  have hs0 : SimC ⟨w, WB (⟨l, true, .loop rec⟩ :: wo), false⟩ C C (fun _ => none) ⟨S.nt, sl, Tr wo ++ [⟨l, true, .loop rec⟩]⟩ ⟨tmps, []⟩ w := by
    obtain ⟨ap1, ap2⟩ := List.pairwise_cons.1 hobjs.2
    refine ⟨BelowX.refl _, hcom.1, hcom.2, fun _ _ _ _ => rfl, ?_, ?_, by simp, by simp, hsz, ?_, Defs.nil, fun _ => Nat.le_refl _⟩
    · intro e he
      rcases List.mem_append.1 he with he | he
      · obtain ⟨e0, h0, rfl⟩ := List.mem_map.1 he
        have := hobjs.1 e0 (List.mem_cons_of_mem _ h0)
        exact ⟨this.1, this.2, fun _ => .inr ⟨e0, List.mem_cons_of_mem _ h0, rfl⟩⟩
      · obtain rfl := List.mem_singleton.1 he
        have := hobjs.1 _ (List.mem_cons_self)
        exact ⟨this.1, this.2, fun _ => .inr ⟨_, List.mem_cons_self, rfl⟩⟩
    · refine List.pairwise_append.2 ⟨List.pairwise_map.2 ap2, by simp, fun e he e' he' => ?_⟩
      obtain ⟨e0, h0, rfl⟩ := List.mem_map.1 he
      obtain rfl := List.mem_singleton.1 he'
      exact fun h => ap1 e0 h0 h.symm
    · intro t y hy
      have hpl' := List.all_eq_true.1 hpl _ (find_mem hy)
      have := hsl t y hy
      cases y with
      | a z => exact Rel.mono hmono this
      | own tok sz l => simp [SV.plain] at hpl'
  have hzip : (ps.toList.zip vals.toList).foldl (fun t (p, v) => t.setIfInBounds p v) tmps = (ps.zip vals).foldl (fun t (p, v) => t.setIfInBounds p v) tmps := by
    rw [← Array.foldl_toList, Array.toList_zip]
  have hs1 : SimC ⟨w, WB (⟨l, true, .loop rec⟩ :: wo), false⟩ C C (fun _ => none) (putsP ps.toList x ⟨S.nt, sl, Tr wo ++ [⟨l, true, .loop rec⟩]⟩) ⟨(ps.zip vals).foldl (fun t (p, v) => t.setIfInBounds p v) tmps, []⟩ w := by
    rw [← hzip]; exact putsP_sim (ps := ps.toList) hs0 hrel hps (by simp [hA pre x hax])
  have hck : CsOk Cs0 ⟨w, WB (⟨l, true, .loop rec⟩ :: wo), false⟩ C := fun b o v hc => by
    have h1 := hmono _ _ _ (hcs0 _ _ _ hc)
    refine ⟨h1, ?_, fun ⟨e, he, hb⟩ => ?_⟩
    · have := World.block_lt_of_cell? w _ (hcom.1 _ _ _ h1).cell; simpa using this
    · subst hb; have := (hobjs.1 e he).2 o; rw [h1] at this; cases this
  have hround := hR l pre x wo rec { rec with state := .busy } _ C rfl hck hj hax _ w ⟨_, _, hs1⟩
  refine wpIn_mono hround ?_
  rintro e a1 w1 ⟨S1, ⟨C1, T1, hs1'⟩, rfl, i, hi, hbody⟩
  have hl1 : w1.heap[l]? = some (.loop rec) := (hs1'.objs _ (mem_of_get hi)).1
  have hlt1 : l < w1.heap.size := (Array.getElem?_eq_some_iff.1 hl1).1
  refine ⟨_, run_beginRound hl1 hst, ?_⟩
  have hs2 := hs1'.setObj (ob' := .loop { rec with state := .busy }) hi (w' := w1.putObj l (.loop { rec with state := .busy })) (Nat.le_refl _) rfl rfl rfl (by simp) (fun k hk => World.putObj_heap_other hk) (World.putObj_heap_same hlt1)
  refine wpIn_mono (hbody _ _ ⟨_, _, hs2⟩) ?_
  rintro e a3 w3 ⟨S3, ⟨C3, T3, hs3⟩, wo', hj', hsub, hrw⟩
  have hm : (⟨l, true, .loop { rec with state := .busy }⟩ : OE) ∈ S3.objs := hsub.mem (by simp)
  obtain ⟨k, hk⟩ := List.getElem?_of_mem hm
  have hl3 : w3.heap[l]? = some (.loop { rec with state := .busy }) := (hs3.objs _ hm).1
  have hlt3 : l < w3.heap.size := (Array.getElem?_eq_some_iff.1 hl3).1
  have key : ∀ pe : Option Code, (match pe with | none => JU (pre ++ [x]) wo' | some c => JX c (pre ++ [x]) wo') →
      ∃ v w', (Instr.endRound l pe).run P w3 = .ok v w' ∧ ∃ (pe : Option Code) (C' : CS) (wo' : List OE), (Ending.returned v) = .returned (.bool pe.isNone) ∧ (match pe with | none => JU (pre ++ [x]) wo' | some c => JX c (pre ++ [x]) wo') ∧ BelowX w.heap.size (WB (⟨l, true, .loop rec⟩ :: wo)) w w' ∧
        (∀ b o, b < w.heap.size → ¬ WB (⟨l, true, .loop rec⟩ :: wo) b → C' b o = C b o) ∧ Com C' w' ∧ Objs C' (⟨l, true, .loop ⟨if pe.isNone then .ready else .done, pe, fn, tmps, ps, assign, body, D⟩⟩ :: wo') w' ∧
        ∀ e ∈ (⟨l, true, .loop ⟨if pe.isNone then .ready else .done, pe, fn, tmps, ps, assign, body, D⟩⟩ :: wo' : List OE), w.heap.size ≤ e.b ∨ WB (⟨l, true, .loop rec⟩ :: wo) e.b := by
    intro pe hj'
    have hback : ({ { rec with state := LoopState.busy } with state := if pe.isNone then LoopState.ready else .done, pending := pe } : Loop) = ⟨if pe.isNone then .ready else .done, pe, fn, tmps, ps, assign, body, D⟩ := by rw [hrec]
    refine ⟨_, _, run_endRound pe hl3, ?_⟩
    rw [hback]
    have hap3 := hs3.apart.sublist hsub
    obtain ⟨ap1, _, ap2⟩ := List.pairwise_append.1 hap3
    have hC3 : ∀ o, C3 l o = none := (hs3.objs _ hm).2.1
    have hhp : ∀ k, k ≠ l → (w3.putObj l (.loop ⟨if pe.isNone then .ready else .done, pe, fn, tmps, ps, assign, body, D⟩)).heap[k]? = w3.heap[k]? := fun k hk => World.putObj_heap_other hk
    have hwl : WB (⟨l, true, .loop rec⟩ :: wo) l := ⟨_, List.mem_cons_self, rfl⟩
    refine ⟨pe, C3, wo', rfl, hj', ?_, hs3.old, ⟨fun b o v hc => ?_, hs3.one⟩, ⟨fun e he => ?_, ?_⟩, fun e he => ?_⟩
    · exact hs3.below.trans ⟨rfl, rfl, rfl, by simp, fun k _ hn => hhp k (fun e => by subst e; exact hn hwl)⟩
    · have hne : b ≠ l := fun e => by subst e; rw [hC3 o] at hc; cases hc
      exact (hs3.com _ _ _ hc).keep (hhp b hne)
    · rcases List.mem_cons.1 he with rfl | he
      · exact ⟨World.putObj_heap_same hlt3, hC3⟩
      · have := hs3.objs e (hsub.mem (List.mem_append.2 (.inl he)))
        exact ⟨this.1.mono (fun _ _ _ x => x) (hhp _ (ap2 e he _ (List.mem_singleton.2 rfl))), this.2.1⟩
    · exact List.pairwise_cons.2 ⟨fun e he h => ap2 e he _ (List.mem_singleton.2 rfl) h.symm, ap1⟩
    · rcases List.mem_cons.1 he with rfl | he
      · exact .inr hwl
      · have := (hs3.objs e (hsub.mem (List.mem_append.2 (.inl he)))).2.2 (hrw e he)
        exact this
  rcases hj' with ⟨rfl, hj'⟩ | ⟨c, hc, hj'⟩
  · exact key none hj'
  · cases hc with
    | ret => exact key (some .ret) hj'
    | exit id => exact key (some (.exit id)) hj'
theorem awp_rangeFuncN {Cs0 : CS} {g : Operand} {ps : Array Tmp} {assign body : Code} {it : Nat} {caps : List AV} {rd : List OE} {A : List (List AV) → List AV → Prop} {G : List (List AV) → Prop} (JU : List (List AV) → List OE → Prop) (JX : Code → List (List AV) → List OE → Prop) (sl : List (Nat × SV)) (wo un : List OE)
    (hq : w0.q = false) (hcs0 : CsOk Cs0 w0 C0) (hg : S.ev g = some (.a (.fn it caps))) (hit : IterS P it caps rd A G) (hen : entersT P it) (hA : ∀ pre x, A pre x → x.length = ps.size) (hp : (wo ++ un).Perm S.objs) (hrw : wo.all (·.rw) = true) (hrd : rd.Sublist un)
    (hsl : Slots S sl) (hpl : sl.all (fun p => p.2.plain) = true) (hps : ps.toList.all (fun p => Nat.blt p S.nt) = true) (h0 : JU [] wo) (hround : RoundN Cs0 P S ps assign body sl JU JX A)
    (hr : ∀ xs wo', G xs → JU xs wo' → Q .normal ⟨S.nt, S.slots, Tr wo' ++ un⟩) (hx : ∀ c xs wo', JX c xs wo' → AWP P w0 C0 c Q ⟨S.nt, S.slots, Tr wo' ++ un⟩) : AWP P w0 C0 (.rangeFunc g ps assign body) Q S := by
  rintro a w ⟨C, T, hs⟩
  refine wpIn_wide.1 (wpIn_rangeFunc (n := 0) ?_)
  intro fn _
  have hf := hs.ev hg
  generalize hv : a.eval g = u at hf
  obtain ⟨arr, rfl⟩ : ∃ arr, u = .func (.func it) #[] arr := by cases hf; exact ⟨_, rfl⟩
  have hcaps := rel_fn.1 hf
  obtain ⟨rec, hrec⟩ : ∃ rec : Loop, rec = ⟨.ready, none, fn, a.tmps, ps, assign, body, w.heap.size⟩ := ⟨_, rfl⟩
  have hs1 := hs.mark
  have hs2 := hs1.newObj (.loop rec) (o := .loop rec) (by have := heap_alloc_at (w.alloc (.deferred (some []))) (.loop rec); exact this)
  obtain ⟨W1, hW1⟩ : ∃ W1, (w.alloc (.deferred (some []))).alloc (.loop rec) = W1 := ⟨_, rfl⟩
  have hl1 : (w.alloc (.deferred (some []))).heap.size = w.heap.size + 1 := by simp
  rw [hW1, hl1] at hs2
  refine ⟨w.heap.size + 1, [{ target := .collected w.heap.size, args := #[] }], W1, { target := .fn (.func it) arr, args := #[.func (.yield (w.heap.size + 1)) #[] #[]] }, W1, it,
    #[.func (.yield (w.heap.size + 1)) #[] #[]] ++ arr, W1, ?_, ?_, fun _ _ => trivial, ?_, fun h => by simp [Fence.wide] at h, ?_⟩
  · rw [← hW1, hrec]; exact run_enterLoop_outer _ _ _ _ _
  · simp only [resolve, hv]
    simp [go_sem]
  · have hen' := hen (#[Value.func (.yield (w.heap.size + 1)) #[] #[]] ++ arr) W1
    simp only [invoke, Sem.run] at hen' ⊢
    first | exact hen' | simpa [go_sem] using hen'
  · refine callsIn_wide.2 ?_
    -- the objects that the iterator is handed
    have hrel : Rels C (.v (.func (.yield (w.heap.size + 1)) #[] #[]) :: caps) (#[Value.func (.yield (w.heap.size + 1)) #[] #[]] ++ arr).toList := by simpa using Rels.cons (Rel.v _) hcaps
    have hp2 : ((⟨w.heap.size + 1, true, .loop rec⟩ :: wo) ++ un).Perm ((⟨w.heap.size + 1, true, .loop rec⟩ : OE) :: S.objs) := hp.cons _
    have hap : ((⟨w.heap.size + 1, true, .loop rec⟩ :: wo) ++ un : List OE).Pairwise (fun e e' => e.b ≠ e'.b) := (hp2.pairwise_iff (fun h => fun e => h e.symm)).2 hs2.apart
    have hobjs : Objs C (rd ++ (⟨w.heap.size + 1, true, .loop rec⟩ :: wo)) W1 := by
      refine ⟨fun e he => ?_, ?_⟩
      · have : e ∈ (⟨w.heap.size + 1, true, .loop rec⟩ : OE) :: S.objs := hp2.mem_iff.1 (List.mem_append.2 (by rcases List.mem_append.1 he with h | h; exact .inr (hrd.mem h); exact .inl h))
        exact ⟨(hs2.objs e this).1, (hs2.objs e this).2.1⟩
      · obtain ⟨h1, h2, h3⟩ := List.pairwise_append.1 hap
        exact List.pairwise_append.2 ⟨h2.sublist hrd, h1, fun e he e' he' h => h3 e' he' e (hrd.mem he) h.symm⟩
    have hyc := round_ycsN hround (l := w.heap.size + 1) (fn := fn) (tmps := a.tmps) (D := w.heap.size) (Cs := C) (Ts := T) hs.size hps hA hpl (fun b o v hc => by obtain ⟨h1, h2, h3⟩ := hcs0 b o v hc; rw [hs.old b o h2 h3]; exact h1) (fun t x hx => by
      obtain ⟨y, hy, hle⟩ := hsl.mem (find_mem hx)
      exact hle.rel (hs.slots t y hy))
    have hpe : rec.pending = none := by rw [hrec]
    have hst : rec.state = .ready := by rw [hrec]
    have hcall := hit (w.heap.size + 1) C (fun pre wo1 => ∃ wo', wo1 = ⟨w.heap.size + 1, true, .loop rec⟩ :: wo' ∧ JU pre wo')
      (fun pre wo1 => ∃ c wo', wo1 = ⟨w.heap.size + 1, true, .loop ⟨.done, some c, fn, a.tmps, ps, assign, body, w.heap.size⟩⟩ :: wo' ∧ JX c pre wo') (by
      rintro pre x wo1 ⟨wo', rfl, hj⟩ hax C1 w1 vals hm hc hrl hob
      rw [hrec] at hob ⊢
      refine YieldAt.mono (hyc pre x wo' hj hax C1 w1 vals hc hrl hob hm) ?_
      rintro e w' ⟨pe, C', wo2, rfl, hj2, g1, g2, g3, g4, g5⟩
      cases pe with
      | none => exact ⟨true, rfl, C', _, ⟨wo2, rfl, hj2⟩, g1, g2, g3, g4, g5⟩
      | some c => exact ⟨false, rfl, C', _, ⟨c, wo2, rfl, hj2⟩, g1, g2, g3, g4, g5⟩) (⟨w.heap.size + 1, true, .loop rec⟩ :: wo) ⟨wo, rfl, h0⟩ C W1 _ (fun _ _ _ h => h) ⟨hs2.com, hs2.one⟩ hrel hobjs
    refine hcall.mono ?_
    have fin : ∀ (C3 : CS) (w3 : World) (r' : Loop) (wo' : List OE), r'.state ≠ .busy → BelowX W1.heap.size (WB (⟨w.heap.size + 1, true, .loop rec⟩ :: wo)) W1 w3 → (∀ b o, b < W1.heap.size → ¬ WB (⟨w.heap.size + 1, true, .loop rec⟩ :: wo) b → C3 b o = C b o) → Com C3 w3 →
        Objs C3 (Tr (⟨w.heap.size + 1, true, .loop r'⟩ :: wo')) w3 → (∀ e ∈ Tr (⟨w.heap.size + 1, true, .loop r'⟩ :: wo'), W1.heap.size ≤ e.b ∨ WB (⟨w.heap.size + 1, true, .loop rec⟩ :: wo) e.b) →
        ∃ w4, (Instr.endLoop (w.heap.size + 1)).run P w3 = .ok r'.pending w4 ∧ Sim w0 C0 ⟨S.nt, S.slots, Tr wo' ++ un⟩ { a with defers := [{ target := .collected w.heap.size, args := #[] }] ++ a.defers } w4 := by
      intro C3 w3 r' wo' hst' hb hC hcom hn hnb
      have hs3 := hs2.calledW hp2 (fun e he => by rcases List.mem_cons.1 he with rfl | he; rfl; exact List.all_eq_true.1 hrw e he) hb (fun h => by rw [hq] at h; cases h) hC hcom hn hnb
      rw [tr_tr] at hs3
      have hi0 : (Tr (⟨w.heap.size + 1, true, .loop r'⟩ :: wo') ++ un)[0]? = some ⟨w.heap.size + 1, true, .loop r'⟩ := rfl
      have hl3 : w3.heap[w.heap.size + 1]? = some (.loop r') := (hs3.objs _ (mem_of_get hi0)).1
      refine ⟨_, run_endLoop (P := P) hl3 hst', ?_⟩
      have hs4 := hs3.setObj (ob' := .loop { r' with state := .exhausted }) hi0 (w' := w3.putObj (w.heap.size + 1) (.loop { r' with state := .exhausted })) (Nat.le_refl _) rfl rfl rfl (by simp) (fun k hk => World.putObj_heap_other hk) (World.putObj_heap_same (Array.getElem?_eq_some_iff.1 hl3).1)
      exact ⟨C3, T, hs4.sub (objs := Tr wo' ++ un) (by simp [Tr])⟩
    rintro e w3 ⟨v, C3, r, nobjs, rfl, ⟨xs, wo1, rfl, hor⟩, hb, hC, hcom, _, hn, hnb⟩
    rcases hor with ⟨hG, ⟨wo', rfl, hj⟩⟩ | ⟨c, wo', rfl, hj⟩
    · obtain ⟨w4, h1, h2⟩ := fin C3 w3 rec wo' (by rw [hst]; simp) hb hC hcom hn hnb
      rw [hpe] at h1
      exact ⟨none, w4, h1, _, h2, hr xs wo' hG hj⟩
    · obtain ⟨w4, h1, h2⟩ := fin C3 w3 ⟨.done, some c, fn, a.tmps, ps, assign, body, w.heap.size⟩ wo' (by simp) hb hC hcom hn hnb
      exact ⟨some c, w4, h1, wpIn_wide.2 (hx c xs wo' hj _ _ h2)⟩
end Go.Proofs.Ytljgdbgcleibjaa.A
namespace Go.Proofs.Ytljgdbgcleibjaa.A
open Go Go.RowKit
set_option linter.unusedVariables false
set_option linter.unusedSimpArgs false
def zA (z : It) : List AV := [spA z.1, .v (.int .u64 z.2)]
def sA (z : It) : List AV := [spA z.1]
def rgA (L : List It) (pre : List (List AV)) (x : List AV) : Prop := ∃ z, L[pre.length]? = some z ∧ pre = (L.take pre.length).map zA ∧ x = zA z
def alA (L : List It) (pre : List (List AV)) (x : List AV) : Prop := ∃ z, L[pre.length]? = some z ∧ pre = (L.take pre.length).map sA ∧ x = sA z
theorem rgA_at {L its R : List It} {pre : List (List AV)} (hp : pre = (L.take pre.length).map zA) (hR : L.drop pre.length = its ++ R) {i : Nat} {z : It} (hz : its[i]? = some z) : rgA L (pre ++ (its.take i).map zA) (zA z) := by
  have hi := (List.getElem?_eq_some_iff.1 hz).1
  have hl : (pre ++ (its.take i).map zA).length = pre.length + i := by simp; omega
  have h1 : L[pre.length + i]? = some z := by rw [← List.getElem?_drop, hR, List.getElem?_append_left hi]; exact hz
  refine ⟨z, by rw [hl]; exact h1, ?_, rfl⟩
  rw [hl, List.take_add, List.map_append, ← hp, hR, List.take_append_of_le_length (by omega)]
theorem rg_step {its : List It} {pre : List (List AV)} {i : Nat} {z : It} (hz : its[i]? = some z) : pre ++ (its.take i).map zA ++ [zA z] = pre ++ (its.take (i + 1)).map zA := by
  rw [List.take_add_one, hz]; simp
theorem rg_seg {L A R : List It} {pre : List (List AV)} (hp : pre = (L.take pre.length).map zA) (hR : L.drop pre.length = A ++ R) : (pre ++ A.map zA) = (L.take (pre ++ A.map zA).length).map zA ∧ L.drop (pre ++ A.map zA).length = R := by
  have hl : (pre ++ A.map zA).length = pre.length + A.length := by simp
  rw [hl]
  constructor
  · rw [List.take_add, List.map_append, ← hp, hR, List.take_append_of_le_length (Nat.le_refl _), List.take_length]
  · rw [← List.drop_drop, hR, List.drop_left]
theorem al_next {L : List It} {pre : List (List AV)} {z : It} (hz : L[pre.length]? = some z) (hp : pre = (L.take pre.length).map zA) : alA L ((L.take pre.length).map sA) (sA z) := by
  have hi := (List.getElem?_eq_some_iff.1 hz).1
  have hl : ((L.take pre.length).map sA).length = pre.length := by simp; omega
  exact ⟨z, by rw [hl]; exact hz, by rw [hl], rfl⟩
theorem al_step {L : List It} {n : Nat} {z : It} (hz : L[n]? = some z) : (L.take n).map sA ++ [sA z] = (L.take (n + 1)).map sA := by
  rw [List.take_add_one, hz]; simp
theorem kk_key {h : Nat} {l : List (Nd h)} (hw : ∀ n ∈ l, wfC 1 h n.2) {i : Nat} {kid : Nd h} (hk : l[i]? = some kid) : ∃ x, x ∈ flat h kid.2 ∧ (kksOf h l)[i]? = some x.1 := by
  obtain ⟨x, r, h1, h2⟩ := head_flat h kid.2 (Nat.le_refl 1) (hw kid (List.mem_of_getElem? hk))
  exact ⟨x, by rw [h1]; exact List.mem_cons_self, by rw [kks_get hk, h2]⟩
theorem kid_flat {h : Nat} {l : List (Nd h)} {i : Nat} {kid : Nd h} (hk : l[i]? = some kid) {z : It} (hz : z ∈ flat h kid.2) : z ∈ flatK l := by
  rw [flatK_split hk]; simp [hz]
theorem key_after {h : Nat} {l : List (Nd h)} (hw : ∀ n ∈ l, wfC 1 h n.2) (hs : Srt (flatK l)) {frm : Sp} (hin : ∀ z ∈ flatK l, ¬ z.1.lt frm) {i : Nat} {a b : Nd h} (ha : l[i]? = some a) (hb : l[i + 1]? = some b) {k : Sp} (hk : (kksOf h l)[i + 1]? = some k) : frm.lt k := by
  obtain ⟨x, hx, _⟩ := kk_key hw ha
  obtain ⟨y, hy, hy2⟩ := kk_key hw hb
  rw [hk] at hy2; cases hy2
  rw [flatK_two ha hb] at hs
  have h1 := (List.pairwise_append.1 (List.pairwise_append.1 (List.pairwise_append.1 hs).1).2.1).2.2 x hx y hy
  have h2 := hin x (kid_flat ha hx)
  rcases Classical.em (frm.lt x.1) with h | h
  · exact Sp.trans h h1
  · rw [Sp.tri h h2]; exact h1
theorem flatK_succ {h : Nat} {l : List (Nd h)} {i : Nat} {kid : Nd h} (hk : l[i]? = some kid) : flatK (l.take (i + 1)) = flatK (l.take i) ++ flat h kid.2 := by
  rw [List.take_add_one, hk]; simp [flatK]
def loS : Sp := ⟨-9223372036854775808, -9223372036854775808, -9223372036854775808, 0⟩
def hiS : Sp := ⟨9223372036854775807, 9223372036854775807, 9223372036854775807, 18446744073709551615⟩
structure Inr (k : Sp) : Prop where
  br : -9223372036854775808 ≤ k.br ∧ k.br ≤ 9223372036854775807
  vo : -9223372036854775808 ≤ k.vo ∧ k.vo ≤ 9223372036854775807
  bl : -9223372036854775808 ≤ k.bl ∧ k.bl ≤ 9223372036854775807
  nu : 0 ≤ k.nu ∧ k.nu ≤ 18446744073709551615
theorem Inr.lt {k : Sp} (h : Inr k) : ¬ hiS.lt k ∧ ¬ k.lt loS := by
  obtain ⟨h1, h2, h3, h4⟩ := h
  rw [Sp.lt_iff, Sp.lt_iff]
  simp only [hiS, loS]
  omega
def Ixd (x : List It) : Prop := ∀ z ∈ x, z.2 = z.1.nu ∧ Inr z.1
theorem Ixd.nil : Ixd [] := fun z h => by cases h
theorem Ixd.put {x : List It} (hs : Srt x) (h : Ixd x) {k : Sp} (hk : Inr k) : Ixd (refPut x k k.nu) := fun z hz => by
  rcases (put_mem hs).1 hz with rfl | ⟨h1, _⟩
  · exact ⟨rfl, hk⟩
  · exact h z h1
theorem Ixd.del {x : List It} (h : Ixd x) (k : Sp) : Ixd (refDel x k) := fun z hz => h z (List.mem_filter.1 hz).1
theorem Ixd.range {x : List It} (h : Ixd x) : ∀ z ∈ x, ¬ hiS.lt z.1 ∧ ¬ z.1.lt loS := fun z hz => (h z hz).2.lt
theorem look_isSome {l : List It} {k : Sp} : (look l k).isSome = decide (∃ z ∈ l, z.1 = k) := by
  rw [Bool.eq_iff_iff, decide_eq_true_eq]
  constructor
  · intro h
    obtain ⟨v, hv⟩ := Option.isSome_iff_exists.1 h
    exact ⟨_, look_some hv, rfl⟩
  · rintro ⟨z, hz, rfl⟩
    cases hl : look l z.1 with
    | some v => rfl
    | none =>
      exfalso
      unfold look at hl
      cases hf : l.find? (fun x => decide (x.1 = z.1)) with
      | some y => rw [hf] at hl; cases hl
      | none => exact absurd (List.find?_eq_none.1 hf z hz) (by simp)
theorem Ixd.mem {x y : List It} (hx : Ixd x) (hy : Ixd y) {z : It} (hz : z ∈ x) : z ∈ y ↔ (look y z.1).isSome = true := by
  rw [look_isSome, decide_eq_true_eq]
  constructor
  · exact fun h => ⟨z, h, rfl⟩
  · rintro ⟨w, hw, e⟩
    have h1 := (hx z hz).1
    have h2 := (hy w hw).1
    have : w = z := Prod.ext e (by rw [h1, h2, e])
    rw [← this]; exact hw
theorem ix_told {x y : List It} (hx : Ixd x) (hy : Ixd y) {p : Sp × Bool} (hp : p ∈ refBtw x y) : (look y p.1).isSome = p.2 ∧ (look x p.1).isSome = !p.2 := by
  unfold refBtw at hp
  obtain ⟨pk, pc⟩ := p
  rcases (btw_mem x y x y (pk, pc)).1 hp with ⟨h1, z, hz, h0, hn⟩ | ⟨h1, z, hz, h0, hn⟩ <;> simp only at h0 h1 ⊢ <;> subst h0
  · rw [h1]
    have h2 : (look y z.1).isSome = false := by cases h : (look y z.1).isSome with | false => rfl | true => exact absurd ((hx.mem hy hz).2 h) hn
    exact ⟨h2, by rw [look_isSome]; exact decide_eq_true ⟨z, hz, rfl⟩⟩
  · rw [h1]
    have h2 : (look x z.1).isSome = false := by cases h : (look x z.1).isSome with | false => rfl | true => exact absurd ((hy.mem hx hz).2 h) hn
    exact ⟨by rw [look_isSome]; exact decide_eq_true ⟨z, hz, rfl⟩, h2⟩
theorem mis_count (l : List It) (z : It) (r : List It) (c : Bool) : (mis l z c).length + (r.filter fun w => decide (w ∉ l)).length = ((z :: r).filter fun w => decide (w ∉ l)).length := by
  unfold mis
  by_cases h : z ∈ l
  · simp [h]
  · simp [h]; omega
theorem btw_count (A B : List It) : ∀ (a b : List It), (btwGo A B a b).length = (a.filter fun z => decide (z ∉ B)).length + (b.filter fun z => decide (z ∉ A)).length := by
  intro a b
  induction a, b using btwGo.induct with
  | case1 => rw [btwGo]; rfl
  | case2 x a ih => rw [btwGo, List.length_append, ih, ← mis_count B x a false]; simp only [List.filter_nil, List.length_nil]; omega
  | case3 y b ih => rw [btwGo, List.length_append, ih, ← mis_count A y b true]; simp only [List.filter_nil, List.length_nil]; omega
  | case4 x a y b h ih => rw [btwGo, if_pos h, List.length_append, ih, ← mis_count B x a false]; omega
  | case5 x a y b h ih => rw [btwGo, if_neg h, List.length_append, ih, ← mis_count A y b true]; omega
def keyM (x : List It) : List (Sp × Bool) := x.map fun z => (z.1, true)
def remX (x : List It) (ys : List It) : List It := ys.foldl (fun l w => refDel l w.1) x
def ekS (k : Sp) : Value := .agg k.vs.toArray
theorem keyM_get : ∀ (x : List It) (k : Sp), (mget (keyM x) k).getD false = (look x k).isSome
  | [], k => rfl
  | z :: r, k => by
    have ih := keyM_get r k
    show (if z.1 = k then some true else mget (keyM r) k).getD false = _
    rw [look_isSome] at ih ⊢
    by_cases h : z.1 = k
    · rw [if_pos h]; exact (decide_eq_true ⟨z, List.mem_cons_self, h⟩).symm
    · rw [if_neg h, ih]; exact decide_eq_decide.2 ⟨fun ⟨w, h1, h2⟩ => ⟨w, List.mem_cons_of_mem _ h1, h2⟩, fun ⟨w, h1, h2⟩ => by rcases List.mem_cons.1 h1 with rfl | h1; exact absurd h2 h; exact ⟨w, h1, h2⟩⟩
theorem mset_new {k : Sp} : ∀ (m : List (Sp × Bool)), (∀ q ∈ m, q.1 ≠ k) → mset m k true = m ++ [(k, true)]
  | [], _ => rfl
  | (q, b) :: r, h => by
    show (if q = k then (k, true) :: r else (q, b) :: mset r k true) = _
    rw [if_neg (h (q, b) List.mem_cons_self), mset_new r (fun w hw => h w (List.mem_cons_of_mem _ hw))]; rfl
theorem keyM_snoc {x : List It} (hs : Srt x) {i : Nat} {z : It} (hz : x[i]? = some z) : mset (keyM (x.take i)) z.1 true = keyM (x.take (i + 1)) := by
  rw [mset_new]
  · unfold keyM; rw [List.take_add_one, hz]; simp
  · intro q hq
    obtain ⟨w, hw, rfl⟩ := List.mem_map.1 hq
    have h1 : x = x.take i ++ z :: x.drop (i + 1) := by rw [← drop_get hz, List.take_append_drop]
    unfold Srt at hs
    rw [h1] at hs
    exact Sp.ne ((List.pairwise_append.1 hs).2.2 w hw z List.mem_cons_self)
theorem mdel_key {k : Sp} : ∀ {x : List It}, Srt x → mdel (keyM x) k = keyM (refDel x k)
  | [], _ => rfl
  | z :: r, hs => by
    obtain ⟨h1, h2⟩ := List.pairwise_cons.1 hs
    show (if z.1 = k then keyM r else (z.1, true) :: mdel (keyM r) k) = _
    unfold refDel
    by_cases h : z.1 = k
    · rw [if_pos h, List.filter_cons_of_neg (by simpa using h)]
      have := refDel_none (l := r) (k := k) (fun w hw e => Sp.ne (h1 w hw) (h.trans e.symm))
      unfold refDel at this
      rw [this]
    · rw [if_neg h, List.filter_cons_of_pos (by simpa using h), mdel_key h2]; rfl
theorem remX_snoc {x ys : List It} {i : Nat} {w : It} (h : ys[i]? = some w) : remX x (ys.take (i + 1)) = refDel (remX x (ys.take i)) w.1 := by
  unfold remX; rw [List.take_add_one, h]; simp
theorem remX_srt {x : List It} (hs : Srt x) : ∀ (ys : List It), Srt (remX x ys) := by
  intro ys
  induction ys generalizing x with
  | nil => exact hs
  | cons w r ih => exact ih (srt_del' hs w.1)
theorem remX_eq (x : List It) : ∀ (ys : List It), remX x ys = x.filter fun z => decide (∀ w ∈ ys, w.1 ≠ z.1) := by
  intro ys
  induction ys generalizing x with
  | nil => exact (List.filter_eq_self.2 (fun z _ => by simp)).symm
  | cons w r ih =>
    show remX (refDel x w.1) r = _
    rw [ih, refDel, List.filter_filter]
    refine List.filter_congr (fun z hz => ?_)
    rw [Bool.eq_iff_iff]
    simp only [Bool.and_eq_true, decide_eq_true_eq, List.mem_cons, forall_eq_or_imp]
    exact ⟨fun ⟨h1, h2⟩ => ⟨fun e => h2 e.symm, h1⟩, fun ⟨h1, h2⟩ => ⟨h2, fun e => h1 e.symm⟩⟩
theorem remX_look {x ys : List It} (hs : Srt ys) {i : Nat} {w : It} (h : ys[i]? = some w) : (look (remX x (ys.take i)) w.1).isSome = (look x w.1).isSome := by
  rw [remX_eq, look_isSome, look_isSome]
  refine decide_eq_decide.2 ⟨fun ⟨z, h1, h2⟩ => ⟨z, (List.mem_filter.1 h1).1, h2⟩, fun ⟨z, h1, h2⟩ => ⟨z, List.mem_filter.2 ⟨h1, decide_eq_true (fun q hq e => ?_)⟩, h2⟩⟩
  have h3 : ys = ys.take i ++ w :: ys.drop (i + 1) := by rw [← drop_get h, List.take_append_drop]
  unfold Srt at hs
  rw [h3] at hs
  exact Sp.ne ((List.pairwise_append.1 hs).2.2 q hq w List.mem_cons_self) (e.trans h2)
def newN (x ys : List It) : Nat := (ys.filter fun w => !(look x w.1).isSome).length
theorem newN_snoc {x ys : List It} {i : Nat} {w : It} (h : ys[i]? = some w) : newN x (ys.take (i + 1)) = newN x (ys.take i) + (if (look x w.1).isSome then 0 else 1) := by
  unfold newN
  rw [List.take_add_one, h, Option.toList_some, List.filter_append, List.length_append]
  cases hl : (look x w.1).isSome with
  | false => rw [if_neg (by decide)]; exact congrArg (_ + ·) (by rw [List.filter_cons_of_pos (by show (!_) = true; rw [hl]; rfl)]; rfl)
  | true => rw [if_pos rfl]; exact congrArg (_ + ·) (by rw [List.filter_cons_of_neg (by show ¬ (!_) = true; rw [hl]; decide)]; rfl)
theorem newN_le (x ys : List It) : newN x ys ≤ ys.length := List.length_filter_le _ _
theorem ix_count {x y : List It} (hx : Ixd x) (hy : Ixd y) : (refBtw x y).length = newN x y + (keyM (remX x y)).length := by
  unfold refBtw
  rw [btw_count]
  have h1 : (x.filter fun z => decide (z ∉ y)) = remX x y := by
    rw [remX_eq]
    refine List.filter_congr (fun z hz => decide_eq_decide.2 ?_)
    rw [hx.mem hy hz, look_isSome, decide_eq_true_eq]
    exact ⟨fun h w hw e => h ⟨w, hw, e⟩, fun h ⟨w, hw, e⟩ => h w hw e⟩
  have h2 : (y.filter fun z => decide (z ∉ x)) = y.filter fun w => !(look x w.1).isSome := by
    refine List.filter_congr (fun z hz => ?_)
    rw [Bool.eq_iff_iff, decide_eq_true_eq, hy.mem hx hz]
    cases (look x z.1).isSome <;> simp
  rw [h1, h2, keyM, List.length_map, newN]
  omega
structure Idx (t : TreeV) (x : List It) : Prop where
  good : Good t x
  ix : Ixd x
  so : ∃ q, t = some q
theorem Idx.new : Idx (some (none, 0)) [] := ⟨good_new, Ixd.nil, _, rfl⟩
theorem Idx.put {t t' : TreeV} {x : List It} {k : Sp} (h : Idx t x) (hk : Inr k) (hp : PutT t k k.nu t') : Idx t' (refPut x k k.nu) :=
  ⟨good_put h.good hp, h.ix.put h.good.st hk, by obtain ⟨r', h1, _⟩ := hp; exact ⟨_, h1⟩⟩
theorem Idx.del {t t' : TreeV} {x : List It} {k : Sp} (h : Idx t x) (hd : DelT t k t') : Idx t' (refDel x k) :=
  ⟨good_del h.good hd, h.ix.del k, by
    unfold DelT at hd
    split at hd
    · rw [hd]; exact h.so
    · obtain ⟨cr, _, hc⟩ := hd
      cases cr with
      | none => rw [show t' = t from hc]; exact h.so
      | some c => exact ⟨_, hc⟩⟩
theorem refDel_le (x : List It) (k : Sp) : (refDel x k).length ≤ x.length := List.length_filter_le _ _
theorem rg_snoc1 {L : List It} {pre : List (List AV)} {z : It} (hz : L[pre.length]? = some z) (hp : pre = (L.take pre.length).map zA) : pre ++ [zA z] = (L.take (pre ++ [zA z]).length).map zA := by
  have hl : (pre ++ [zA z]).length = pre.length + 1 := by simp
  rw [hl, List.take_add_one, hz, List.map_append, ← hp]; rfl
def plK : List VK := [.int .i64, .int .i64, .int .i64]
def plV (s : Sp) : List Value := [.int .i64 s.br, .int .i64 s.vo, .int .i64 s.bl]
theorem isVal_pl (s : Sp) : IsVal (.agg (s.cs.take 3)) (.agg (plV s).toArray) := isVal_agg (areVals_v (plV s))
theorem plV_kn (s : Sp) : Kn plK (plV s) := ⟨⟨_, rfl⟩, ⟨_, rfl⟩, ⟨_, rfl⟩, trivial⟩
theorem plV_eq (a b : Sp) : decide (a.br = b.br ∧ a.vo = b.vo ∧ a.bl = b.bl) = true ↔ plV a = plV b := by rw [decide_eq_true_eq]; simp [plV]
end Go.Proofs.Ytljgdbgcleibjaa.A
namespace Go.Proofs.Ytljgdbgcleibjaa.A
open Go Go.RowKit
set_option linter.unusedVariables false
set_option linter.unusedSimpArgs false
set_option maxRecDepth 100000
theorem TI.zero47 : ZeroT Try.prog 47 [.v (.int .i64 0), .v (.int .i64 0), .v (.int .i64 0), .v (.int .u64 0)] := ⟨[(.int .i64 0), (.int .i64 0), (.int .i64 0), (.int .u64 0)], by kernel_rfl, (LeCells.refl _)⟩
theorem TI.un36 : Try.prog.underlying 36 = some (.pointer 82) := by kernel_rfl
theorem TI.pl47 : placesT Try.prog 47 = some [(0, 3), (3, 1)] := by kernel_rfl
theorem TI.sz47 : szT Try.prog 47 = some 4 := by kernel_rfl
theorem TI.agg47 : aggT Try.prog 47 = some true := by kernel_rfl
theorem TI.en43 : entersT Try.prog 43 := enters_of Try.func43 (by kernel_rfl) (by kernel_rfl)
theorem TI.en94 : entersT Try.prog 94 := enters_of Try.func94 (by kernel_rfl) (by kernel_rfl)
theorem TI.f82_0 : fieldT Try.prog 82 0 = some (0, 78) := by kernel_rfl
theorem TI.sz78 : szT Try.prog 78 = some 1 := by kernel_rfl
theorem TI.agg78 : aggT Try.prog 78 = some false := by kernel_rfl
theorem TI.sl78 : sliceT Try.prog 78 = some 47 := by kernel_rfl
theorem TI.mixed : Try.prog.follows .mixedOrders = true := by kernel_rfl
theorem TI.f82_1 : fieldT Try.prog 82 1 = some (1, 79) := by kernel_rfl
theorem TI.sz79 : szT Try.prog 79 = some 1 := by kernel_rfl
theorem TI.agg79 : aggT Try.prog 79 = some false := by kernel_rfl
theorem TI.sl79 : sliceT Try.prog 79 = some 45 := by kernel_rfl
theorem TI.sz45 : szT Try.prog 45 = some 1 := by kernel_rfl
theorem TI.agg45 : aggT Try.prog 45 = some false := by kernel_rfl
theorem TI.en42 : entersT Try.prog 42 := enters_of Try.func42 (by kernel_rfl) (by kernel_rfl)
theorem TI.en93 : entersT Try.prog 93 := enters_of Try.func93 (by kernel_rfl) (by kernel_rfl)
theorem TI.en13 : entersT Try.prog 13 := enters_of Try.func13 (by kernel_rfl) (by kernel_rfl)
theorem TI.pl101 : placesT Try.prog 101 = some [(0, 1)] := by kernel_rfl
theorem TI.zero101 : ZeroT Try.prog 101 [.v (.pointer none)] := ⟨[(.pointer none)], by kernel_rfl, (LeCells.refl _)⟩
theorem TI.un60 : Try.prog.underlying 60 = some (.pointer 101) := by kernel_rfl
theorem TI.f101_0 : fieldT Try.prog 101 0 = some (0, 24) := by kernel_rfl
theorem TI.sz24 : szT Try.prog 24 = some 1 := by kernel_rfl
theorem TI.agg24 : aggT Try.prog 24 = some false := by kernel_rfl
theorem TI.un24 : Try.prog.underlying 24 = some (.pointer 75) := by kernel_rfl
theorem TI.agg44 : aggT Try.prog 44 = some true := by kernel_rfl
theorem TI.sz44 : szT Try.prog 44 = some 3 := by kernel_rfl
theorem TI.en64 : entersT Try.prog 64 := enters_of Try.func64 (by kernel_rfl) (by kernel_rfl)
theorem TI.f47_0 : fieldT Try.prog 47 0 = some (0, 44) := by kernel_rfl
theorem TI.f47_1 : fieldT Try.prog 47 1 = some (3, 45) := by kernel_rfl
theorem floor1_ok (i : Int) (b : Bool) (h : 0 ≤ i ∧ i ≤ 1000) : AC Try.prog 94 [.v (.int .i64 i), boolA b] [] (fun r n => n = [] ∧ r = .v (.int .i64 (if b then i else i - 1))) := by
 refine ac_of_awp (rs := [4]) (nt := 9) Try.func94 rfl rfl rfl rfl (fun w0 C0 hq => ?_)
 refine awp_seq ?_
 refine awp_region ?_
 refine r_assign rfl rfl ?_
 refine awl_nil ?_
 refine x_then ?_
 refine awp_seq ?_
 refine awp_seq ?_
 refine awp_region ?_
 refine r_move rfl rfl ?_
 refine awl_nil ?_
 refine x_then ?_
 refine awp_cond rfl (fun hc0 => ?_) (fun hc0 => ?_)
 ·
  have hb : b = true := hc0
  refine awp_seq ?_
  refine awp_region ?_
  refine r_move rfl rfl ?_
  refine r_assign rfl rfl ?_
  refine awl_nil ?_
  refine x_then ?_
  refine awp_ret ?_
  refine x_thenR ?_
  exact ⟨(.inl rfl), _, [], (.one (by first | exact .mk rfl rfl | exact .nil rfl)), ⟨rfl, by rw [hb]; rfl⟩, (List.nil_sublist _), (by simp)⟩
 ·
  have hb : b = false := hc0
  refine awp_skip ?_
  refine x_then ?_
  refine awp_seq ?_
  refine awp_region ?_
  refine r_move rfl rfl ?_
  refine r_ari _ rfl rfl rfl (wrap_id (by first | omega | (simp; omega))) rfl ?_
  refine r_assign rfl rfl ?_
  refine awl_nil ?_
  refine x_then ?_
  refine awp_ret ?_
  exact ⟨(.inl rfl), _, [], (.one (by first | exact .mk rfl rfl | exact .nil rfl)), ⟨rfl, by rw [hb]; rfl⟩, (List.nil_sublist _), (by simp)⟩
theorem near_nil (k : Sp) : AC Try.prog 93 [nilP, spA k, .fn 94 []] [] (fun r n => n = [] ∧ ∃ (s : Sp) (v : Int) (ok : Bool), r = .tup [spA s, .v (.int .u64 v), boolA ok]) := by
 refine ac_of_awpG (Res3K Try.prog (.cell 6 47) (.tmp 7) (.tmp 8)) (nt := 46) Try.func93 rfl rfl rfl (resK3_run rfl) (fun w0 C0 hq => ?_)
 unfold nilP
 refine awp_seq ?_
 refine awp_region ?_
 refine r_box rfl rfl rfl (fun b4 => ?_)
 refine r_alloc TI.zero47 rfl (fun b6 => ?_)
 refine r_assign rfl rfl ?_
 refine r_assign rfl rfl ?_
 refine awl_nil ?_
 refine x_then ?_
 refine awp_seq ?_
 refine awp_seq ?_
 refine awp_region ?_
 refine r_move rfl rfl ?_
 refine r_pnil rfl (by first | exact .pt _ _ | exact .nil | exact .v _ | exact .cp _) TI.un36 rfl ?_
 refine awl_nil ?_
 refine x_then ?_
 refine awp_cond rfl (fun hc0 => ?_) (fun hc0 => ?_)
 ·
  skip
  refine awp_seq ?_
  refine awp_region ?_
  refine r_build (parts := []) rfl TI.pl47 TI.zero47 rfl rfl rfl ?_
  refine r_store 0 rfl rfl rfl TI.sz47 rfl rfl rfl ?_
  refine r_assign rfl rfl ?_
  refine r_assign rfl rfl ?_
  refine awl_nil ?_
  refine x_then ?_
  refine awp_ret ?_
  refine x_thenR ?_
  exact ⟨(.inl rfl), _, [], ⟨_, _, _, (.box (by first | exact .mk' 0 rfl rfl TI.agg47 TI.sz47 rfl | exact .mk' 1 rfl rfl TI.agg47 TI.sz47 rfl | exact .mk' 2 rfl rfl TI.agg47 TI.sz47 rfl | exact .mk' 3 rfl rfl TI.agg47 TI.sz47 rfl | exact .mk' 4 rfl rfl TI.agg47 TI.sz47 rfl | exact .mk' 5 rfl rfl TI.agg47 TI.sz47 rfl)), (.tmp (by first | exact .mk rfl rfl | exact .nil rfl)), (.tmp (by first | exact .mk rfl rfl | exact .nil rfl)), rfl⟩, ⟨rfl, Sp.z, 0, false, rfl⟩, (List.nil_sublist _), (by simp)⟩
 ·
  exfalso; cases hc0
theorem near_leaf (b : Nat) (its : List It) (h4 : its.length ≤ 4) (k : Sp) : AC Try.prog 93 [ndA b (its.map fun p : Sp × Int => p.1) (its.map fun p : Sp × Int => p.2) [], spA k, .fn 94 []] [] (fun r n => n = [] ∧ ∃ (s : Sp) (v : Int) (ok : Bool), r = .tup [spA s, .v (.int .u64 v), boolA ok]) := by
 refine ac_of_awpG (Res3K Try.prog (.cell 6 47) (.tmp 7) (.tmp 8)) (nt := 46) Try.func93 rfl rfl rfl (resK3_run rfl) (fun w0 C0 hq => ?_)
 refine awp_seq ?_
 refine awp_region ?_
 refine r_box rfl rfl rfl (fun b4 => ?_)
 refine r_alloc TI.zero47 rfl (fun b6 => ?_)
 refine r_assign rfl rfl ?_
 refine r_assign rfl rfl ?_
 refine awl_nil ?_
 refine x_then ?_
 refine awp_seq ?_
 refine awp_seq ?_
 refine awp_region ?_
 refine r_move rfl rfl ?_
 refine r_pnil rfl (by first | exact .pt _ _ | exact .nil | exact .v _ | exact .cp _) TI.un36 rfl ?_
 refine awl_nil ?_
 refine x_then ?_
 refine awp_cond rfl (fun hc0 => ?_) (fun hc0 => ?_)
 ·
  exfalso; cases hc0
 ·
  refine awp_skip ?_
  refine x_then ?_
  refine awp_seq ?_
  refine awp_region ?_
  refine r_move rfl rfl ?_
  refine r_move rfl rfl ?_
  refine r_loadAb 1 rfl rfl TI.agg47 TI.sz47 rfl rfl ?_
  refine r_call0 hq rfl rfl (.cons (.ev rfl rfl) (.cons (.ev rfl rfl) .nil)) (find_ok b (its.map fun p : Sp × Int => p.1) (its.map fun p : Sp × Int => p.2) [] (by simp; omega) k) rfl TI.en43 rfl (fun r hr => ?_)
  obtain rfl := hr
  refine r_extract rfl rfl rfl ?_
  refine r_extract rfl rfl rfl ?_
  refine r_call0 hq rfl rfl (.cons (.ev rfl rfl) (.cons (.ev rfl rfl) .nil)) (floor1_ok (((findN k (its.map fun p : Sp × Int => p.1) ([] : List AV).isEmpty).1 : Nat) : Int) ((findN k (its.map fun p : Sp × Int => p.1) ([] : List AV).isEmpty).2) ⟨Int.natCast_nonneg _, by have h1 : (findN k (its.map fun p : Sp × Int => p.1) ([] : List AV).isEmpty).1 ≤ (its.map fun p : Sp × Int => p.1).length := findL_le; rw [List.length_map] at h1; omega⟩) rfl TI.en94 rfl (fun r hr => ?_)
  obtain rfl := hr
  generalize (if (findN k (its.map fun p : Sp × Int => p.1) ([] : List AV).isEmpty).2 = true then (((findN k (its.map fun p : Sp × Int => p.1) ([] : List AV).isEmpty).1 : Nat) : Int) else (((findN k (its.map fun p : Sp × Int => p.1) ([] : List AV).isEmpty).1 : Nat) : Int) - 1) = z
  refine r_assign rfl rfl ?_
  refine awl_nil ?_
  refine x_then ?_
  refine awp_seq ?_
  refine awp_seq ?_
  refine awp_region ?_
  refine r_move rfl rfl ?_
  refine r_cmp rfl rfl rfl rfl ?_
  refine r_move rfl rfl ?_
  refine g_cases (t' := 22) rfl (fun hg22 => ?_) (fun hg22 => ?_)
  ·
   refine g_skip rfl rfl hg22 rfl ?_
   refine g_skip rfl rfl hg22 rfl ?_
   refine g_skip rfl rfl hg22 rfl ?_
   refine g_skip rfl rfl hg22 rfl ?_
   refine g_skip rfl rfl hg22 rfl ?_
   refine g_skip rfl rfl hg22 rfl ?_
   refine g_skip rfl rfl hg22 rfl ?_
   refine r_pickT rfl hg22 rfl rfl ?_
   refine awl_nil ?_
   refine x_then ?_
   refine awp_condT rfl ?_
   refine awp_seq ?_
   refine awp_region ?_
   refine r_build (parts := []) rfl TI.pl47 TI.zero47 rfl rfl rfl ?_
   refine r_store 0 rfl rfl rfl TI.sz47 rfl rfl rfl ?_
   refine r_assign rfl rfl ?_
   refine r_assign rfl rfl ?_
   refine awl_nil ?_
   refine x_then ?_
   refine awp_ret ?_
   refine x_thenR ?_
   exact ⟨(.inl rfl), _, [], ⟨_, _, _, (.box (by first | exact .mk' 0 rfl rfl TI.agg47 TI.sz47 rfl | exact .mk' 1 rfl rfl TI.agg47 TI.sz47 rfl | exact .mk' 2 rfl rfl TI.agg47 TI.sz47 rfl | exact .mk' 3 rfl rfl TI.agg47 TI.sz47 rfl | exact .mk' 4 rfl rfl TI.agg47 TI.sz47 rfl | exact .mk' 5 rfl rfl TI.agg47 TI.sz47 rfl)), (.tmp (by first | exact .mk rfl rfl | exact .nil rfl)), (.tmp (by first | exact .mk rfl rfl | exact .nil rfl)), rfl⟩, ⟨rfl, Sp.z, 0, false, rfl⟩, (List.nil_sublist _), (by simp)⟩
  ·
   have hz0 : 0 ≤ z := by have := of_decide_eq_false hg22; omega
   refine g_run rfl rfl hg22 ?_
   refine r_move rfl rfl ?_
   refine g_run rfl rfl hg22 ?_
   refine r_move rfl rfl ?_
   refine g_run rfl rfl hg22 ?_
   refine r_nilCheck rfl (by first | exact .pt _ _ | exact .v _ | exact .cp _) rfl ?_
   refine g_run rfl rfl hg22 ?_
   refine r_fieldpt rfl TI.f82_0 TI.sz78 rfl ?_
   refine g_run rfl rfl hg22 ?_
   refine r_load1 rfl TI.agg78 rfl ?_
   refine g_run rfl rfl hg22 ?_
   refine r_lenS rfl rfl TI.sl78 rfl ?_
   refine g_run rfl rfl hg22 ?_
   refine r_cmp rfl rfl rfl rfl ?_
   refine r_pickF rfl hg22 rfl rfl ?_
   refine awl_nil ?_
   refine x_then ?_
   refine awp_cond rfl (fun hc1 => ?_) (fun hc1 => ?_)
   ·
    refine awp_seq ?_
    refine awp_region ?_
    refine r_build (parts := []) rfl TI.pl47 TI.zero47 rfl rfl rfl ?_
    refine r_store 0 rfl rfl rfl TI.sz47 rfl rfl rfl ?_
    refine r_assign rfl rfl ?_
    refine r_assign rfl rfl ?_
    refine awl_nil ?_
    refine x_then ?_
    refine awp_ret ?_
    refine x_thenR ?_
    exact ⟨(.inl rfl), _, [], ⟨_, _, _, (.box (by first | exact .mk' 0 rfl rfl TI.agg47 TI.sz47 rfl | exact .mk' 1 rfl rfl TI.agg47 TI.sz47 rfl | exact .mk' 2 rfl rfl TI.agg47 TI.sz47 rfl | exact .mk' 3 rfl rfl TI.agg47 TI.sz47 rfl | exact .mk' 4 rfl rfl TI.agg47 TI.sz47 rfl | exact .mk' 5 rfl rfl TI.agg47 TI.sz47 rfl)), (.tmp (by first | exact .mk rfl rfl | exact .nil rfl)), (.tmp (by first | exact .mk rfl rfl | exact .nil rfl)), rfl⟩, ⟨rfl, Sp.z, 0, false, rfl⟩, (List.nil_sublist _), (by simp)⟩
   ·
    have hzl : z.toNat < its.length := by have := of_decide_eq_false hc1; simp at this; omega
    obtain ⟨x, hx⟩ := get_lt hzl
    refine awp_skip ?_
    refine x_then ?_
    refine awp_seq ?_
    refine awp_any (fun B S => ∃ sl : List (Nat × SV), S = ⟨46, sl, [⟨b6, true, .box (cond (B 14) x.1.cs [.v (.int .i64 0), .v (.int .i64 0), .v (.int .i64 0), .v (.int .u64 0)])⟩, ⟨b4, true, .box k.cs⟩]⟩ ∧ find 0 sl = some (.a (.pt b [.sl 4 ((its.map fun p : Sp × Int => p.1).map Sp.cs), .sl 1 ((its.map fun p : Sp × Int => p.2).map u64c), .sl 1 (([] : List AV).map fun x => [x])])) ∧ find 6 sl = some (.a (.v (.pointer (some ⟨b6, 0, none⟩)))) ∧ find 9 sl = some (.a (.v (.int .i64 (z)))) ∧ (B 0 = true → find 32 sl = some (.a (.pt b [.sl 4 ((its.map fun p : Sp × Int => p.1).map Sp.cs), .sl 1 ((its.map fun p : Sp × Int => p.2).map u64c), .sl 1 (([] : List AV).map fun x => [x])]))) ∧ (B 1 = true → find 33 sl = some (.a (.pt b [.sl 4 ((its.map fun p : Sp × Int => p.1).map Sp.cs), .sl 1 ((its.map fun p : Sp × Int => p.2).map u64c), .sl 1 (([] : List AV).map fun x => [x])]))) ∧ (B 2 = true → find 34 sl = some (.a (.cp [.sl 4 ((its.map fun p : Sp × Int => p.1).map Sp.cs), .sl 1 ((its.map fun p : Sp × Int => p.2).map u64c), .sl 1 (([] : List AV).map fun x => [x])]))) ∧ (B 3 = true → find 35 sl = some (.a (.sl 4 ((its.map fun p : Sp × Int => p.1).map Sp.cs)))) ∧ (B 4 = true → find 36 sl = some (.a (.v (.int .i64 (z))))) ∧ (B 5 = true → find 37 sl = some (.a (.cp x.1.cs))) ∧ (B 6 = true → find 38 sl = some (.a (spA x.1))) ∧ (B 7 = true → find 39 sl = some (.a (.pt b [.sl 4 ((its.map fun p : Sp × Int => p.1).map Sp.cs), .sl 1 ((its.map fun p : Sp × Int => p.2).map u64c), .sl 1 (([] : List AV).map fun x => [x])]))) ∧ (B 8 = true → find 40 sl = some (.a (.pt b [.sl 4 ((its.map fun p : Sp × Int => p.1).map Sp.cs), .sl 1 ((its.map fun p : Sp × Int => p.2).map u64c), .sl 1 (([] : List AV).map fun x => [x])]))) ∧ (B 9 = true → find 41 sl = some (.a (.cp [.sl 1 ((its.map fun p : Sp × Int => p.2).map u64c), .sl 1 (([] : List AV).map fun x => [x])]))) ∧ (B 10 = true → find 42 sl = some (.a (.sl 1 ((its.map fun p : Sp × Int => p.2).map u64c)))) ∧ (B 11 = true → find 43 sl = some (.a (.v (.int .i64 (z))))) ∧ (B 12 = true → find 44 sl = some (.a (.cp (u64c x.2)))) ∧ (B 13 = true → find 45 sl = some (.a (.v (.int .u64 x.2)))) ∧ (B 15 = true → find 7 sl = some (.a (.v (.int .u64 x.2)))) ∧ (B 16 = true → find 8 sl = some (.a (.v (Go.Value.bool true))))) TI.mixed rfl ⟨_, rfl, rfl, rfl, rfl, (fun h => by cases h), (fun h => by cases h), (fun h => by cases h), (fun h => by cases h), (fun h => by cases h), (fun h => by cases h), (fun h => by cases h), (fun h => by cases h), (fun h => by cases h), (fun h => by cases h), (fun h => by cases h), (fun h => by cases h), (fun h => by cases h), (fun h => by cases h), (fun h => by cases h), (fun h => by cases h)⟩ ⟨⟨⟨⟨⟨⟨⟨⟨⟨⟨⟨⟨⟨⟨⟨⟨⟨trivial
     , ⟨_, rfl, fun B S hBi hdep hcl => by
       rintro ⟨sl, rfl, h0, h6, h9, f0, f1, f2, f3, f4, f5, f6, f7, f8, f9, f10, f11, f12, f13, f15, f16⟩
       refine r_move h0 rfl ?_
       exact awl_nil ⟨rfl, _, rfl, h0, h6, h9, (fun h => rfl), f1, f2, f3, f4, f5, f6, f7, f8, f9, f10, f11, f12, f13, f15, f16⟩⟩⟩
     , ⟨_, rfl, fun B S hBi hdep hcl => by
       rintro ⟨sl, rfl, h0, h6, h9, f0, f1, f2, f3, f4, f5, f6, f7, f8, f9, f10, f11, f12, f13, f15, f16⟩
       refine r_nilCheck (f0 (hdep 0 rfl)) (by first | exact .pt _ _ | exact .v _ | exact .cp _) rfl ?_
       exact awl_nil ⟨rfl, _, rfl, h0, h6, h9, f0, (fun h => rfl), f2, f3, f4, f5, f6, f7, f8, f9, f10, f11, f12, f13, f15, f16⟩⟩⟩
     , ⟨_, rfl, fun B S hBi hdep hcl => by
       rintro ⟨sl, rfl, h0, h6, h9, f0, f1, f2, f3, f4, f5, f6, f7, f8, f9, f10, f11, f12, f13, f15, f16⟩
       refine r_fieldpt (f1 (hdep 1 rfl)) TI.f82_0 TI.sz78 rfl ?_
       exact awl_nil ⟨rfl, _, rfl, h0, h6, h9, f0, f1, (fun h => rfl), f3, f4, f5, f6, f7, f8, f9, f10, f11, f12, f13, f15, f16⟩⟩⟩
     , ⟨_, rfl, fun B S hBi hdep hcl => by
       rintro ⟨sl, rfl, h0, h6, h9, f0, f1, f2, f3, f4, f5, f6, f7, f8, f9, f10, f11, f12, f13, f15, f16⟩
       refine r_load1 (f2 (hdep 2 rfl)) TI.agg78 rfl ?_
       exact awl_nil ⟨rfl, _, rfl, h0, h6, h9, f0, f1, f2, (fun h => rfl), f4, f5, f6, f7, f8, f9, f10, f11, f12, f13, f15, f16⟩⟩⟩
     , ⟨_, rfl, fun B S hBi hdep hcl => by
       rintro ⟨sl, rfl, h0, h6, h9, f0, f1, f2, f3, f4, f5, f6, f7, f8, f9, f10, f11, f12, f13, f15, f16⟩
       refine r_move h9 rfl ?_
       exact awl_nil ⟨rfl, _, rfl, h0, h6, h9, f0, f1, f2, f3, (fun h => rfl), f5, f6, f7, f8, f9, f10, f11, f12, f13, f15, f16⟩⟩⟩
     , ⟨_, rfl, fun B S hBi hdep hcl => by
       rintro ⟨sl, rfl, h0, h6, h9, f0, f1, f2, f3, f4, f5, f6, f7, f8, f9, f10, f11, f12, f13, f15, f16⟩
       refine r_index (f3 (hdep 3 rfl)) rfl (f4 (hdep 4 rfl)) TI.sl78 TI.sz47 hz0 (get_map (get_map hx)) rfl ?_
       exact awl_nil ⟨rfl, _, rfl, h0, h6, h9, f0, f1, f2, f3, f4, (fun h => rfl), f6, f7, f8, f9, f10, f11, f12, f13, f15, f16⟩⟩⟩
     , ⟨_, rfl, fun B S hBi hdep hcl => by
       rintro ⟨sl, rfl, h0, h6, h9, f0, f1, f2, f3, f4, f5, f6, f7, f8, f9, f10, f11, f12, f13, f15, f16⟩
       refine r_loadA (f5 (hdep 5 rfl)) TI.agg47 TI.sz47 rfl rfl ?_
       exact awl_nil ⟨rfl, _, rfl, h0, h6, h9, f0, f1, f2, f3, f4, f5, (fun h => rfl), f7, f8, f9, f10, f11, f12, f13, f15, f16⟩⟩⟩
     , ⟨_, rfl, fun B S hBi hdep hcl => by
       rintro ⟨sl, rfl, h0, h6, h9, f0, f1, f2, f3, f4, f5, f6, f7, f8, f9, f10, f11, f12, f13, f15, f16⟩
       refine r_move h0 rfl ?_
       exact awl_nil ⟨rfl, _, rfl, h0, h6, h9, f0, f1, f2, f3, f4, f5, f6, (fun h => rfl), f8, f9, f10, f11, f12, f13, f15, f16⟩⟩⟩
     , ⟨_, rfl, fun B S hBi hdep hcl => by
       rintro ⟨sl, rfl, h0, h6, h9, f0, f1, f2, f3, f4, f5, f6, f7, f8, f9, f10, f11, f12, f13, f15, f16⟩
       refine r_nilCheck (f7 (hdep 7 rfl)) (by first | exact .pt _ _ | exact .v _ | exact .cp _) rfl ?_
       exact awl_nil ⟨rfl, _, rfl, h0, h6, h9, f0, f1, f2, f3, f4, f5, f6, f7, (fun h => rfl), f9, f10, f11, f12, f13, f15, f16⟩⟩⟩
     , ⟨_, rfl, fun B S hBi hdep hcl => by
       rintro ⟨sl, rfl, h0, h6, h9, f0, f1, f2, f3, f4, f5, f6, f7, f8, f9, f10, f11, f12, f13, f15, f16⟩
       refine r_fieldpt (f8 (hdep 8 rfl)) TI.f82_1 TI.sz79 rfl ?_
       exact awl_nil ⟨rfl, _, rfl, h0, h6, h9, f0, f1, f2, f3, f4, f5, f6, f7, f8, (fun h => rfl), f10, f11, f12, f13, f15, f16⟩⟩⟩
     , ⟨_, rfl, fun B S hBi hdep hcl => by
       rintro ⟨sl, rfl, h0, h6, h9, f0, f1, f2, f3, f4, f5, f6, f7, f8, f9, f10, f11, f12, f13, f15, f16⟩
       refine r_load1 (f9 (hdep 9 rfl)) TI.agg79 rfl ?_
       exact awl_nil ⟨rfl, _, rfl, h0, h6, h9, f0, f1, f2, f3, f4, f5, f6, f7, f8, f9, (fun h => rfl), f11, f12, f13, f15, f16⟩⟩⟩
     , ⟨_, rfl, fun B S hBi hdep hcl => by
       rintro ⟨sl, rfl, h0, h6, h9, f0, f1, f2, f3, f4, f5, f6, f7, f8, f9, f10, f11, f12, f13, f15, f16⟩
       refine r_move h9 rfl ?_
       exact awl_nil ⟨rfl, _, rfl, h0, h6, h9, f0, f1, f2, f3, f4, f5, f6, f7, f8, f9, f10, (fun h => rfl), f12, f13, f15, f16⟩⟩⟩
     , ⟨_, rfl, fun B S hBi hdep hcl => by
       rintro ⟨sl, rfl, h0, h6, h9, f0, f1, f2, f3, f4, f5, f6, f7, f8, f9, f10, f11, f12, f13, f15, f16⟩
       refine r_index (f10 (hdep 10 rfl)) rfl (f11 (hdep 11 rfl)) TI.sl79 TI.sz45 hz0 (get_map (get_map hx)) rfl ?_
       exact awl_nil ⟨rfl, _, rfl, h0, h6, h9, f0, f1, f2, f3, f4, f5, f6, f7, f8, f9, f10, f11, (fun h => rfl), f13, f15, f16⟩⟩⟩
     , ⟨_, rfl, fun B S hBi hdep hcl => by
       rintro ⟨sl, rfl, h0, h6, h9, f0, f1, f2, f3, f4, f5, f6, f7, f8, f9, f10, f11, f12, f13, f15, f16⟩
       refine r_load1 (f12 (hdep 12 rfl)) TI.agg45 rfl ?_
       exact awl_nil ⟨rfl, _, rfl, h0, h6, h9, f0, f1, f2, f3, f4, f5, f6, f7, f8, f9, f10, f11, f12, (fun h => rfl), f15, f16⟩⟩⟩
     , ⟨_, rfl, fun B S hBi hdep hcl => by
       rintro ⟨sl, rfl, h0, h6, h9, f0, f1, f2, f3, f4, f5, f6, f7, f8, f9, f10, f11, f12, f13, f15, f16⟩
       rw [hBi]
       refine r_store 0 h6 rfl (f6 (hdep 6 rfl)) TI.sz47 rfl rfl rfl ?_
       exact awl_nil ⟨rfl, sl, (by show _ = (⟨46, _, [⟨b6, true, .box (cond true x.1.cs [.v (.int .i64 0), .v (.int .i64 0), .v (.int .i64 0), .v (.int .u64 0)])⟩, ⟨b4, true, .box k.cs⟩]⟩ : AState); rfl), h0, h6, h9, f0, f1, f2, f3, f4, f5, f6, f7, f8, f9, f10, f11, f12, f13, f15, f16⟩⟩⟩
     , ⟨_, rfl, fun B S hBi hdep hcl => by
       rintro ⟨sl, rfl, h0, h6, h9, f0, f1, f2, f3, f4, f5, f6, f7, f8, f9, f10, f11, f12, f13, f15, f16⟩
       refine r_assign (f13 (hdep 13 rfl)) rfl ?_
       exact awl_nil ⟨rfl, _, rfl, h0, h6, h9, f0, f1, f2, f3, f4, f5, f6, f7, f8, f9, f10, f11, f12, f13, (fun h => rfl), f16⟩⟩⟩
     , ⟨_, rfl, fun B S hBi hdep hcl => by
       rintro ⟨sl, rfl, h0, h6, h9, f0, f1, f2, f3, f4, f5, f6, f7, f8, f9, f10, f11, f12, f13, f15, f16⟩
       refine r_assign rfl rfl ?_
       exact awl_nil ⟨rfl, _, rfl, h0, h6, h9, f0, f1, f2, f3, f4, f5, f6, f7, f8, f9, f10, f11, f12, f13, f15, (fun h => rfl)⟩⟩⟩
     (fun B S hall => by
      rintro ⟨sl, rfl, h0, h6, h9, f0, f1, f2, f3, f4, f5, f6, f7, f8, f9, f10, f11, f12, f13, f15, f16⟩
      rw [hall 14 (by decide)]
      refine x_then ?_
      refine awp_weaken (S' := ⟨46, [(0, .a (.pt b [.sl 4 ((its.map fun p : Sp × Int => p.1).map Sp.cs), .sl 1 ((its.map fun p : Sp × Int => p.2).map u64c), .sl 1 (([] : List AV).map fun x => [x])])), (6, .a (.v (.pointer (some ⟨b6, 0, none⟩)))), (9, .a (.v (.int .i64 (z)))), (7, .a (.v (.int .u64 x.2))), (8, .a (.v (Go.Value.bool true)))], [⟨b6, true, .box x.1.cs⟩, ⟨b4, true, .box k.cs⟩]⟩) ⟨rfl, (Slots.cons h0 (.refl _) (Slots.cons h6 (.refl _) (Slots.cons h9 (.refl _) (Slots.cons (f15 (hall 15 (by decide))) (.refl _) (Slots.cons (f16 (hall 16 (by decide))) (.refl _) Slots.nil))))), (List.Sublist.refl _)⟩ ?_
      refine awp_ret ?_
      exact ⟨(.inl rfl), _, [], ⟨_, _, _, (.box (by first | exact .mk' 0 rfl rfl TI.agg47 TI.sz47 rfl | exact .mk' 1 rfl rfl TI.agg47 TI.sz47 rfl | exact .mk' 2 rfl rfl TI.agg47 TI.sz47 rfl | exact .mk' 3 rfl rfl TI.agg47 TI.sz47 rfl | exact .mk' 4 rfl rfl TI.agg47 TI.sz47 rfl | exact .mk' 5 rfl rfl TI.agg47 TI.sz47 rfl)), (.tmp (by first | exact .mk rfl rfl | exact .nil rfl)), (.tmp (by first | exact .mk rfl rfl | exact .nil rfl)), rfl⟩, ⟨rfl, x.1, x.2, true, rfl⟩, (List.nil_sublist _), (by simp)⟩)
theorem Floor_none (t : TreeV) (hrt : rootT t = none) (k : Sp) : AC Try.prog 64 [encT t, spA k] [] (fun r n => n = [] ∧ ∃ (s : Sp) (v : Int) (ok : Bool), r = .tup [spA s, .v (.int .u64 v), boolA ok]) := by
 refine ac_of_awpG (Res3K Try.prog (.cell 4 47) (.tmp 5) (.tmp 6)) (nt := 21) Try.func64 rfl rfl rfl (resK3_run rfl) (fun w0 C0 hq => ?_)
 refine awp_seq ?_
 refine awp_region ?_
 refine r_box rfl rfl rfl (fun b3 => ?_)
 refine r_alloc TI.zero47 rfl (fun b4 => ?_)
 refine r_assign rfl rfl ?_
 refine r_assign rfl rfl ?_
 refine awl_nil ?_
 refine x_then ?_
 refine awp_seq ?_
 refine awp_region ?_
 refine r_move rfl rfl ?_
 refine r_loadAb 1 rfl rfl TI.agg47 TI.sz47 rfl rfl ?_
 refine r_call0 hq rfl rfl (.cons (.ev rfl rfl) (.cons (.ev rfl rfl) .nil)) (leaf_none t hrt k) rfl TI.en42 rfl (fun r hr => ?_)
 obtain rfl := hr
 refine r_move rfl rfl ?_
 refine r_extract rfl rfl rfl ?_
 refine r_extract rfl rfl rfl ?_
 refine r_assign rfl rfl ?_
 refine r_assign rfl rfl ?_
 refine awl_nil ?_
 refine x_then ?_
 refine awp_seq ?_
 refine awp_region ?_
 refine r_move rfl rfl ?_
 refine r_loadAb 1 rfl rfl TI.agg47 TI.sz47 rfl rfl ?_
 refine r_call0 hq rfl rfl (.cons (.ev rfl rfl) (.cons (.ev rfl rfl) (.cons (.ev rfl rfl) .nil))) (near_nil k) rfl TI.en93 rfl (fun r hr => ?_)
 obtain ⟨s1, v1, ok1, rfl⟩ := hr
 refine r_extract rfl rfl rfl ?_
 refine r_extract rfl rfl rfl ?_
 refine r_extract rfl rfl rfl ?_
 refine r_store 0 rfl rfl rfl TI.sz47 rfl rfl rfl ?_
 refine r_assign rfl rfl ?_
 refine r_assign rfl rfl ?_
 refine awl_nil ?_
 refine x_then ?_
 refine awp_ret ?_
 exact ⟨(.inl rfl), _, [], ⟨_, _, _, (.box (by first | exact .mk' 0 rfl rfl TI.agg47 TI.sz47 rfl | exact .mk' 1 rfl rfl TI.agg47 TI.sz47 rfl | exact .mk' 2 rfl rfl TI.agg47 TI.sz47 rfl | exact .mk' 3 rfl rfl TI.agg47 TI.sz47 rfl | exact .mk' 4 rfl rfl TI.agg47 TI.sz47 rfl | exact .mk' 5 rfl rfl TI.agg47 TI.sz47 rfl)), (.tmp (by first | exact .mk rfl rfl | exact .nil rfl)), (.tmp (by first | exact .mk rfl rfl | exact .nil rfl)), rfl⟩, ⟨rfl, s1, v1, ok1, rfl⟩, (List.nil_sublist _), (by simp)⟩
theorem Floor_some (t : TreeV) (h : Nat) (n : Nd h) (hrt : rootT t = some ⟨h, n⟩) (hw : wfC 1 h n.2) (k : Sp) : AC Try.prog 64 [encT t, spA k] [] (fun r n => n = [] ∧ ∃ (s : Sp) (v : Int) (ok : Bool), r = .tup [spA s, .v (.int .u64 v), boolA ok]) := by
 refine ac_of_awpG (Res3K Try.prog (.cell 4 47) (.tmp 5) (.tmp 6)) (nt := 21) Try.func64 rfl rfl rfl (resK3_run rfl) (fun w0 C0 hq => ?_)
 have hlw := leafAt_wf h n k hw
 refine awp_seq ?_
 refine awp_region ?_
 refine r_box rfl rfl rfl (fun b3 => ?_)
 refine r_alloc TI.zero47 rfl (fun b4 => ?_)
 refine r_assign rfl rfl ?_
 refine r_assign rfl rfl ?_
 refine awl_nil ?_
 refine x_then ?_
 refine awp_seq ?_
 refine awp_region ?_
 refine r_move rfl rfl ?_
 refine r_loadAb 1 rfl rfl TI.agg47 TI.sz47 rfl rfl ?_
 refine r_call0 hq rfl rfl (.cons (.ev rfl rfl) (.cons (.ev rfl rfl) .nil)) (leaf_some t h n hrt hw k) rfl TI.en42 rfl (fun r hr => ?_)
 obtain ⟨b, nx, rfl⟩ := hr
 refine r_move rfl rfl ?_
 refine r_extract rfl rfl rfl ?_
 refine r_extract rfl rfl rfl ?_
 refine r_assign rfl rfl ?_
 refine r_assign rfl rfl ?_
 refine awl_nil ?_
 refine x_then ?_
 refine awp_seq ?_
 refine awp_region ?_
 refine r_move rfl rfl ?_
 refine r_loadAb 1 rfl rfl TI.agg47 TI.sz47 rfl rfl ?_
 refine r_call0 hq rfl rfl (.cons (.ev rfl rfl) (.cons (.ev rfl rfl) (.cons (.ev rfl rfl) .nil))) (near_leaf b (leafAt h n k) hlw.2 k) rfl TI.en93 rfl (fun r hr => ?_)
 obtain ⟨s1, v1, ok1, rfl⟩ := hr
 refine r_extract rfl rfl rfl ?_
 refine r_extract rfl rfl rfl ?_
 refine r_extract rfl rfl rfl ?_
 refine r_store 0 rfl rfl rfl TI.sz47 rfl rfl rfl ?_
 refine r_assign rfl rfl ?_
 refine r_assign rfl rfl ?_
 refine awl_nil ?_
 refine x_then ?_
 refine awp_ret ?_
 exact ⟨(.inl rfl), _, [], ⟨_, _, _, (.box (by first | exact .mk' 0 rfl rfl TI.agg47 TI.sz47 rfl | exact .mk' 1 rfl rfl TI.agg47 TI.sz47 rfl | exact .mk' 2 rfl rfl TI.agg47 TI.sz47 rfl | exact .mk' 3 rfl rfl TI.agg47 TI.sz47 rfl | exact .mk' 4 rfl rfl TI.agg47 TI.sz47 rfl | exact .mk' 5 rfl rfl TI.agg47 TI.sz47 rfl)), (.tmp (by first | exact .mk rfl rfl | exact .nil rfl)), (.tmp (by first | exact .mk rfl rfl | exact .nil rfl)), rfl⟩, ⟨rfl, s1, v1, ok1, rfl⟩, (List.nil_sublist _), (by simp)⟩
theorem Floor_ok (t : TreeV) (hw : wfRt (rootT t)) (k : Sp) : AC Try.prog 64 [encT t, spA k] [] (fun r n => n = [] ∧ ∃ (s : Sp) (v : Int) (ok : Bool), r = .tup [spA s, .v (.int .u64 v), boolA ok]) := by
  cases hr : rootT t with
  | none => exact Floor_none t hr k
  | some s => obtain ⟨h, n⟩ := s; rw [hr] at hw; exact Floor_some t h n hr hw.1 k
theorem flat44 : FlatT Try.prog 44 plK := ⟨by kernel_rfl, by kernel_rfl, by kernel_rfl, by kernel_rfl⟩
theorem ixNew_ok : AC Try.prog 26 [] [] (fun r n => ∃ g, r = .v (.pointer (some ⟨g, 0, none⟩)) ∧ n = [⟨g, true, .box [encT (some (none, 0))]⟩]) := by
 refine ac_of_awp (rs := [0]) (nt := 4) Try.func26 rfl rfl rfl rfl (fun w0 C0 hq => ?_)
 refine awp_seq ?_
 refine awp_region ?_
 refine r_assign rfl rfl ?_
 refine awl_nil ?_
 refine x_then ?_
 refine awp_seq ?_
 refine awp_region ?_
 refine r_call0 hq rfl rfl .nil (New_ok) rfl TI.en13 rfl (fun r hr => ?_)
 obtain rfl := hr
 refine r_build (parts := [(0, .tmp 1)]) rfl TI.pl101 TI.zero101 rfl rfl rfl ?_
 refine r_box rfl rfl rfl (fun b3 => ?_)
 refine r_assign rfl rfl ?_
 refine awl_nil ?_
 refine x_then ?_
 refine awp_ret ?_
 exact ⟨(.inl rfl), _, [⟨b3, true, .box [encT (some (none, 0))]⟩], (.one (by first | exact .mk rfl rfl | exact .nil rfl)), ⟨b3, rfl, rfl⟩, (List.Sublist.refl _), (by simp)⟩
theorem Tree_ok (q : Rt × Int) (g : Nat) (f : Bool) : AC Try.prog 30 [.v (.pointer (some ⟨g, 0, none⟩))] [⟨g, f, .box [encT (some q)]⟩] (fun r n => n = [] ∧ r = encT (some q)) := by
 refine ac_of_awp (rs := [2]) (nt := 17) Try.func30 rfl rfl rfl rfl (fun w0 C0 hq => ?_)
 obtain ⟨rt, m⟩ := q
 refine awp_seq ?_
 refine awp_region ?_
 refine r_assign rfl rfl ?_
 refine awl_nil ?_
 refine x_then ?_
 refine awp_seq ?_
 refine awp_seq ?_
 refine awp_region ?_
 refine r_move rfl rfl ?_
 refine r_pnil rfl (by first | exact .pt _ _ | exact .nil | exact .v _ | exact .cp _) TI.un60 rfl ?_
 refine r_move rfl rfl ?_
 refine g_run rfl rfl rfl ?_
 refine r_move rfl rfl ?_
 refine g_run rfl rfl rfl ?_
 refine r_nilCheck rfl (by first | exact .pt _ _ | exact .v _ | exact .cp _) rfl ?_
 refine g_run rfl rfl rfl ?_
 refine r_fieldb rfl TI.f101_0 TI.sz24 rfl ?_
 refine g_run rfl rfl rfl ?_
 refine r_load1b 0 rfl rfl rfl TI.agg24 rfl ?_
 refine g_run rfl rfl rfl ?_
 refine r_pnil rfl (by first | exact .pt _ _ | exact .nil | exact .v _ | exact .cp _) TI.un24 rfl ?_
 refine r_pickF rfl rfl rfl rfl ?_
 refine awl_nil ?_
 refine x_then ?_
 refine awp_cond rfl (fun hc0 => ?_) (fun hc0 => ?_)
 ·
  exfalso; cases hc0
 ·
  refine awp_skip ?_
  refine x_then ?_
  refine awp_seq ?_
  refine awp_region ?_
  refine r_move rfl rfl ?_
  refine r_nilCheck rfl (by first | exact .pt _ _ | exact .v _ | exact .cp _) rfl ?_
  refine r_fieldb rfl TI.f101_0 TI.sz24 rfl ?_
  refine r_load1b 0 rfl rfl rfl TI.agg24 rfl ?_
  refine r_assign rfl rfl ?_
  refine awl_nil ?_
  refine x_then ?_
  refine awp_ret ?_
  exact ⟨(.inl rfl), _, [], (.one (by first | exact .mk rfl rfl | exact .nil rfl)), ⟨rfl, rfl⟩, (List.nil_sublist _), (by simp)⟩
theorem At_ok (t : TreeV) (hw : wfRt (rootT t)) (p : Sp) (m : Int) (g : Nat) (f : Bool) : AC Try.prog 47 [.v (.pointer (some ⟨g, 0, none⟩)), .agg (p.cs.take 3), .v (.int .u64 m)] [⟨g, f, .box [encT t]⟩] (fun r n => n = [] ∧ ∃ (v : Int) (ok : Bool), r = .tup [.v (.int .u64 v), boolA ok]) := by
 refine ac_of_awp (rs := [6, 7]) (nt := 35) Try.func47 rfl rfl rfl rfl (fun w0 C0 hq => ?_)
 refine awp_seq ?_
 refine awp_region ?_
 refine r_box rfl rfl rfl (fun b4 => ?_)
 refine r_assign rfl rfl ?_
 refine r_assign rfl rfl ?_
 refine awl_nil ?_
 refine x_then ?_
 refine awp_seq ?_
 refine awp_seq ?_
 refine awp_region ?_
 refine r_move rfl rfl ?_
 refine r_pnil rfl (by first | exact .pt _ _ | exact .nil | exact .v _ | exact .cp _) TI.un60 rfl ?_
 refine awl_nil ?_
 refine x_then ?_
 refine awp_cond rfl (fun hc0 => ?_) (fun hc0 => ?_)
 ·
  exfalso; cases hc0
 ·
  refine awp_skip ?_
  refine x_then ?_
  refine awp_seq ?_
  refine awp_any (fun B S => ∃ s : Sp, ∃ v : Int, ∃ ok : Bool, ∃ b8 : Nat, ∃ sl : List (Nat × SV), S = ⟨35, sl, [⟨b4, true, .box (p.cs.take 3)⟩, ⟨g, false, .box [encT t]⟩] ++ cond (B 12) [⟨b8, true, .box (cond (B 13) s.cs [.v (.int .i64 0), .v (.int .i64 0), .v (.int .i64 0), .v (.int .u64 0)])⟩] []⟩ ∧ find 0 sl = some (.a (.v (.pointer (some ⟨g, 0, none⟩)))) ∧ find 2 sl = some (.a (.v (.int .u64 m))) ∧ find 4 sl = some (.a (.v (.pointer (some ⟨b4, 0, none⟩)))) ∧ (B 0 = true → find 14 sl = some (.a (.v (.pointer (some ⟨g, 0, none⟩))))) ∧ (B 1 = true → find 15 sl = some (.a (.v (.pointer (some ⟨g, 0, none⟩))))) ∧ (B 2 = true → find 16 sl = some (.a (.v (.pointer (some ⟨g, 0 + 0, none⟩))))) ∧ (B 3 = true → find 17 sl = some (.a (encT t))) ∧ (B 4 = true → find 18 sl = some (.a (.agg (p.cs.take 3)))) ∧ (B 5 = true → find 19 sl = some (.a (.v (.int .u64 m)))) ∧ (B 6 = true → find 20 sl = some (.a (spA ⟨p.br, p.vo, p.bl, m⟩))) ∧ (B 7 = true → find 21 sl = some (.a (.tup [spA s, .v (.int .u64 v), boolA ok]))) ∧ (B 8 = true → find 13 sl = some (.a (.tup [spA s, .v (.int .u64 v), boolA ok]))) ∧ (B 9 = true → find 22 sl = some (.a (spA s))) ∧ (B 10 = true → find 23 sl = some (.a (.v (.int .u64 v)))) ∧ (B 11 = true → find 24 sl = some (.a (boolA ok))) ∧ (B 12 = true → find 8 sl = some (.a (.v (.pointer (some ⟨b8, 0, none⟩))))) ∧ (B 14 = true → find 9 sl = some (.a (.v (.int .u64 v)))) ∧ (B 15 = true → find 10 sl = some (.a (boolA ok)))) TI.mixed rfl ⟨Sp.z, 0, false, 0, _, rfl, rfl, rfl, rfl, (fun h => by cases h), (fun h => by cases h), (fun h => by cases h), (fun h => by cases h), (fun h => by cases h), (fun h => by cases h), (fun h => by cases h), (fun h => by cases h), (fun h => by cases h), (fun h => by cases h), (fun h => by cases h), (fun h => by cases h), (fun h => by cases h), (fun h => by cases h), (fun h => by cases h)⟩ ⟨⟨⟨⟨⟨⟨⟨⟨⟨⟨⟨⟨⟨⟨⟨⟨trivial
   , ⟨_, rfl, fun B S hBi hdep hcl => by
     rintro ⟨s, v, ok, b8, sl, rfl, h0, h2, h4, f0, f1, f2, f3, f4, f5, f6, f7, f8, f9, f10, f11, f12, f14, f15⟩
     refine r_move h0 rfl ?_
     exact awl_nil ⟨rfl, s, v, ok, b8, _, rfl, h0, h2, h4, (fun h => rfl), f1, f2, f3, f4, f5, f6, f7, f8, f9, f10, f11, f12, f14, f15⟩⟩⟩
   , ⟨_, rfl, fun B S hBi hdep hcl => by
     rintro ⟨s, v, ok, b8, sl, rfl, h0, h2, h4, f0, f1, f2, f3, f4, f5, f6, f7, f8, f9, f10, f11, f12, f14, f15⟩
     refine r_nilCheck (f0 (hdep 0 rfl)) (by first | exact .pt _ _ | exact .v _ | exact .cp _) rfl ?_
     exact awl_nil ⟨rfl, s, v, ok, b8, _, rfl, h0, h2, h4, f0, (fun h => rfl), f2, f3, f4, f5, f6, f7, f8, f9, f10, f11, f12, f14, f15⟩⟩⟩
   , ⟨_, rfl, fun B S hBi hdep hcl => by
     rintro ⟨s, v, ok, b8, sl, rfl, h0, h2, h4, f0, f1, f2, f3, f4, f5, f6, f7, f8, f9, f10, f11, f12, f14, f15⟩
     refine r_fieldb (f1 (hdep 1 rfl)) TI.f101_0 TI.sz24 rfl ?_
     exact awl_nil ⟨rfl, s, v, ok, b8, _, rfl, h0, h2, h4, f0, f1, (fun h => rfl), f3, f4, f5, f6, f7, f8, f9, f10, f11, f12, f14, f15⟩⟩⟩
   , ⟨_, rfl, fun B S hBi hdep hcl => by
     rintro ⟨s, v, ok, b8, sl, rfl, h0, h2, h4, f0, f1, f2, f3, f4, f5, f6, f7, f8, f9, f10, f11, f12, f14, f15⟩
     refine r_load1b 1 (f2 (hdep 2 rfl)) rfl rfl TI.agg24 rfl ?_
     exact awl_nil ⟨rfl, s, v, ok, b8, _, rfl, h0, h2, h4, f0, f1, f2, (fun h => rfl), f4, f5, f6, f7, f8, f9, f10, f11, f12, f14, f15⟩⟩⟩
   , ⟨_, rfl, fun B S hBi hdep hcl => by
     rintro ⟨s, v, ok, b8, sl, rfl, h0, h2, h4, f0, f1, f2, f3, f4, f5, f6, f7, f8, f9, f10, f11, f12, f14, f15⟩
     refine r_loadAb 0 h4 rfl TI.agg44 TI.sz44 rfl rfl ?_
     exact awl_nil ⟨rfl, s, v, ok, b8, _, rfl, h0, h2, h4, f0, f1, f2, f3, (fun h => rfl), f5, f6, f7, f8, f9, f10, f11, f12, f14, f15⟩⟩⟩
   , ⟨_, rfl, fun B S hBi hdep hcl => by
     rintro ⟨s, v, ok, b8, sl, rfl, h0, h2, h4, f0, f1, f2, f3, f4, f5, f6, f7, f8, f9, f10, f11, f12, f14, f15⟩
     refine r_move h2 rfl ?_
     exact awl_nil ⟨rfl, s, v, ok, b8, _, rfl, h0, h2, h4, f0, f1, f2, f3, f4, (fun h => rfl), f6, f7, f8, f9, f10, f11, f12, f14, f15⟩⟩⟩
   , ⟨_, rfl, fun B S hBi hdep hcl => by
     rintro ⟨s, v, ok, b8, sl, rfl, h0, h2, h4, f0, f1, f2, f3, f4, f5, f6, f7, f8, f9, f10, f11, f12, f14, f15⟩
     refine r_build (parts := [(0, .tmp 18), (1, .tmp 19)]) rfl TI.pl47 TI.zero47 (parts_cons (f4 (hdep 4 rfl)) (parts_cons (f5 (hdep 5 rfl)) parts_nil)) rfl rfl ?_
     exact awl_nil ⟨rfl, s, v, ok, b8, _, rfl, h0, h2, h4, f0, f1, f2, f3, f4, f5, (fun h => rfl), f7, f8, f9, f10, f11, f12, f14, f15⟩⟩⟩
   , ⟨_, rfl, fun B S hBi hdep hcl => by
     rintro ⟨s, v, ok, b8, sl, rfl, h0, h2, h4, f0, f1, f2, f3, f4, f5, f6, f7, f8, f9, f10, f11, f12, f14, f15⟩
     have e13 : B 13 = false := by cases h : B 13 with | false => rfl | true => exact absurd (hcl 13 7 h rfl) (by rw [hBi]; decide)
     rw [e13]
     refine r_call0 hq rfl rfl (.cons (.ev (f3 (hdep 3 rfl)) rfl) (.cons (.ev (f6 (hdep 6 rfl)) rfl) .nil)) (Floor_ok t hw ⟨p.br, p.vo, p.bl, m⟩) rfl TI.en64 rfl (fun r hr => ?_)
     obtain ⟨s, v, ok, rfl⟩ := hr
     exact awl_nil ⟨rfl, s, v, ok, b8, ((21, .a (.tup [spA s, .v (.int .u64 v), boolA ok])) :: sl), (by show _ = (⟨35, _, [⟨b4, true, .box (p.cs.take 3)⟩, ⟨g, false, .box [encT t]⟩] ++ cond (B 12) [⟨b8, true, .box (cond (B 13) s.cs [.v (.int .i64 0), .v (.int .i64 0), .v (.int .i64 0), .v (.int .u64 0)])⟩] []⟩ : AState); rw [e13]; rfl), h0, h2, h4, f0, f1, f2, f3, f4, f5, f6, (fun h => rfl), (fun h => absurd (hcl 8 7 h rfl) (by rw [hBi]; decide)), (fun h => absurd (hcl 8 7 (hcl 9 8 h rfl) rfl) (by rw [hBi]; decide)), (fun h => absurd (hcl 8 7 (hcl 10 8 h rfl) rfl) (by rw [hBi]; decide)), (fun h => absurd (hcl 8 7 (hcl 11 8 h rfl) rfl) (by rw [hBi]; decide)), f12, (fun h => absurd (hcl 14 7 h rfl) (by rw [hBi]; decide)), (fun h => absurd (hcl 15 7 h rfl) (by rw [hBi]; decide))⟩⟩⟩
   , ⟨_, rfl, fun B S hBi hdep hcl => by
     rintro ⟨s, v, ok, b8, sl, rfl, h0, h2, h4, f0, f1, f2, f3, f4, f5, f6, f7, f8, f9, f10, f11, f12, f14, f15⟩
     refine r_move (f7 (hdep 7 rfl)) rfl ?_
     exact awl_nil ⟨rfl, s, v, ok, b8, _, rfl, h0, h2, h4, f0, f1, f2, f3, f4, f5, f6, f7, (fun h => rfl), f9, f10, f11, f12, f14, f15⟩⟩⟩
   , ⟨_, rfl, fun B S hBi hdep hcl => by
     rintro ⟨s, v, ok, b8, sl, rfl, h0, h2, h4, f0, f1, f2, f3, f4, f5, f6, f7, f8, f9, f10, f11, f12, f14, f15⟩
     refine r_extract (f8 (hdep 8 rfl)) rfl rfl ?_
     exact awl_nil ⟨rfl, s, v, ok, b8, _, rfl, h0, h2, h4, f0, f1, f2, f3, f4, f5, f6, f7, f8, (fun h => rfl), f10, f11, f12, f14, f15⟩⟩⟩
   , ⟨_, rfl, fun B S hBi hdep hcl => by
     rintro ⟨s, v, ok, b8, sl, rfl, h0, h2, h4, f0, f1, f2, f3, f4, f5, f6, f7, f8, f9, f10, f11, f12, f14, f15⟩
     refine r_extract (f8 (hdep 8 rfl)) rfl rfl ?_
     exact awl_nil ⟨rfl, s, v, ok, b8, _, rfl, h0, h2, h4, f0, f1, f2, f3, f4, f5, f6, f7, f8, f9, (fun h => rfl), f11, f12, f14, f15⟩⟩⟩
   , ⟨_, rfl, fun B S hBi hdep hcl => by
     rintro ⟨s, v, ok, b8, sl, rfl, h0, h2, h4, f0, f1, f2, f3, f4, f5, f6, f7, f8, f9, f10, f11, f12, f14, f15⟩
     refine r_extract (f8 (hdep 8 rfl)) rfl rfl ?_
     exact awl_nil ⟨rfl, s, v, ok, b8, _, rfl, h0, h2, h4, f0, f1, f2, f3, f4, f5, f6, f7, f8, f9, f10, (fun h => rfl), f12, f14, f15⟩⟩⟩
   , ⟨_, rfl, fun B S hBi hdep hcl => by
     rintro ⟨s, v, ok, b8, sl, rfl, h0, h2, h4, f0, f1, f2, f3, f4, f5, f6, f7, f8, f9, f10, f11, f12, f14, f15⟩
     have e13 : B 13 = false := by cases h : B 13 with | false => rfl | true => exact absurd (hcl 13 12 h rfl) (by rw [hBi]; decide)
     rw [hBi, e13]
     refine r_alloc TI.zero47 rfl (fun b8 => ?_)
     refine awl_imp (imp_perm (objs := [⟨b4, true, .box (p.cs.take 3)⟩, ⟨g, false, .box [encT t]⟩] ++ [⟨b8, true, .box [.v (.int .i64 0), .v (.int .i64 0), .v (.int .i64 0), .v (.int .u64 0)]⟩]) (List.perm_append_comm (l₂ := [_]))) ?_
     exact awl_nil ⟨rfl, s, v, ok, b8, ((8, .a (.v (.pointer (some ⟨b8, 0, none⟩)))) :: sl), (by show _ = (⟨35, _, [⟨b4, true, .box (p.cs.take 3)⟩, ⟨g, false, .box [encT t]⟩] ++ cond true [⟨b8, true, .box (cond (B 13) s.cs [.v (.int .i64 0), .v (.int .i64 0), .v (.int .i64 0), .v (.int .u64 0)])⟩] []⟩ : AState); rw [e13]; rfl), h0, h2, h4, f0, f1, f2, f3, f4, f5, f6, f7, f8, f9, f10, f11, (fun h => rfl), f14, f15⟩⟩⟩
   , ⟨_, rfl, fun B S hBi hdep hcl => by
     rintro ⟨s, v, ok, b8, sl, rfl, h0, h2, h4, f0, f1, f2, f3, f4, f5, f6, f7, f8, f9, f10, f11, f12, f14, f15⟩
     have e12 : B 12 = true := hdep 12 rfl
     rw [hBi, e12]
     refine r_store 2 (f12 e12) rfl (f9 (hdep 9 rfl)) TI.sz47 rfl rfl rfl ?_
     exact awl_nil ⟨rfl, s, v, ok, b8, sl, (by show _ = (⟨35, _, [⟨b4, true, .box (p.cs.take 3)⟩, ⟨g, false, .box [encT t]⟩] ++ cond (B 12) [⟨b8, true, .box (cond true s.cs [.v (.int .i64 0), .v (.int .i64 0), .v (.int .i64 0), .v (.int .u64 0)])⟩] []⟩ : AState); rw [e12]; rfl), h0, h2, h4, f0, f1, f2, f3, f4, f5, f6, f7, f8, f9, f10, f11, f12, f14, f15⟩⟩⟩
   , ⟨_, rfl, fun B S hBi hdep hcl => by
     rintro ⟨s, v, ok, b8, sl, rfl, h0, h2, h4, f0, f1, f2, f3, f4, f5, f6, f7, f8, f9, f10, f11, f12, f14, f15⟩
     refine r_assign (f10 (hdep 10 rfl)) rfl ?_
     exact awl_nil ⟨rfl, s, v, ok, b8, _, rfl, h0, h2, h4, f0, f1, f2, f3, f4, f5, f6, f7, f8, f9, f10, f11, f12, (fun h => rfl), f15⟩⟩⟩
   , ⟨_, rfl, fun B S hBi hdep hcl => by
     rintro ⟨s, v, ok, b8, sl, rfl, h0, h2, h4, f0, f1, f2, f3, f4, f5, f6, f7, f8, f9, f10, f11, f12, f14, f15⟩
     refine r_assign (f11 (hdep 11 rfl)) rfl ?_
     exact awl_nil ⟨rfl, s, v, ok, b8, _, rfl, h0, h2, h4, f0, f1, f2, f3, f4, f5, f6, f7, f8, f9, f10, f11, f12, f14, (fun h => rfl)⟩⟩⟩
   (fun B S hall => by
    rintro ⟨s, v, ok, b8, sl, rfl, h0, h2, h4, f0, f1, f2, f3, f4, f5, f6, f7, f8, f9, f10, f11, f12, f14, f15⟩
    rw [hall 12 (by decide), hall 13 (by decide)]
    refine x_then ?_
    refine awp_weaken (S' := ⟨35, [(0, .a (.v (.pointer (some ⟨g, 0, none⟩)))), (2, .a (.v (.int .u64 m))), (4, .a (.v (.pointer (some ⟨b4, 0, none⟩)))), (8, .a (.v (.pointer (some ⟨b8, 0, none⟩)))), (10, .a (boolA ok))], [⟨b4, true, .box (p.cs.take 3)⟩, ⟨g, false, .box [encT t]⟩, ⟨b8, true, .box s.cs⟩]⟩) ⟨rfl, (Slots.cons h0 (.refl _) (Slots.cons h2 (.refl _) (Slots.cons h4 (.refl _) (Slots.cons (f12 (hall 12 (by decide))) (.refl _) (Slots.cons (f15 (hall 15 (by decide))) (.refl _) Slots.nil))))), (List.Sublist.refl _)⟩ ?_
    refine awp_seq ?_
    refine awp_seq ?_
    refine awp_region ?_
    refine r_move rfl rfl ?_
    refine r_not rfl rfl ?_
    refine r_move rfl rfl ?_
    refine g_cases (t' := 27) rfl (fun hg27 => ?_) (fun hg27 => ?_)
    ·
     refine g_skip rfl rfl hg27 rfl ?_
     refine g_skip rfl rfl hg27 rfl ?_
     refine g_skip rfl rfl hg27 rfl ?_
     refine g_skip rfl rfl hg27 rfl ?_
     refine r_pickT rfl hg27 rfl rfl ?_
     refine awl_nil ?_
     refine x_then ?_
     refine awp_condT rfl ?_
     refine awp_seq ?_
     refine awp_region ?_
     refine r_assign rfl rfl ?_
     refine r_assign rfl rfl ?_
     refine awl_nil ?_
     refine x_then ?_
     refine awp_ret ?_
     refine x_thenR ?_
     exact ⟨(.inl rfl), _, [], (.two (by first | exact .mk rfl rfl | exact .nil rfl) (by first | exact .mk rfl rfl | exact .nil rfl)), ⟨rfl, _, _, rfl⟩, (List.nil_sublist _), (by simp)⟩
    ·
     refine g_run rfl rfl hg27 ?_
     refine r_fieldb rfl TI.f47_0 TI.sz44 rfl ?_
     refine g_run rfl rfl hg27 ?_
     refine r_loadAb 2 rfl rfl TI.agg44 TI.sz44 rfl rfl ?_
     refine g_run rfl rfl hg27 ?_
     refine r_loadAb 0 rfl rfl TI.agg44 TI.sz44 rfl rfl ?_
     refine g_run rfl rfl hg27 ?_
     refine r_fne rfl rfl flat44 (isVal_pl s) (isVal_pl p) (plV_kn _) (plV_kn _) (decide (s.br = p.br ∧ s.vo = p.vo ∧ s.bl = p.bl)) (plV_eq s p) rfl ?_
     refine r_pickF rfl hg27 rfl rfl ?_
     refine awl_nil ?_
     refine x_then ?_
     refine awp_cond rfl (fun hc1 => ?_) (fun hc1 => ?_)
     ·
      refine awp_seq ?_
      refine awp_region ?_
      refine r_assign rfl rfl ?_
      refine r_assign rfl rfl ?_
      refine awl_nil ?_
      refine x_then ?_
      refine awp_ret ?_
      refine x_thenR ?_
      exact ⟨(.inl rfl), _, [], (.two (by first | exact .mk rfl rfl | exact .nil rfl) (by first | exact .mk rfl rfl | exact .nil rfl)), ⟨rfl, _, _, rfl⟩, (List.nil_sublist _), (by simp)⟩
     ·
      refine awp_skip ?_
      refine x_then ?_
      refine awp_seq ?_
      refine awp_region ?_
      refine r_fieldb rfl TI.f47_1 TI.sz45 rfl ?_
      refine r_load1b 2 rfl rfl rfl TI.agg45 rfl ?_
      refine r_assign rfl rfl ?_
      refine r_assign rfl rfl ?_
      refine awl_nil ?_
      refine x_then ?_
      refine awp_ret ?_
      exact ⟨(.inl rfl), _, [], (.two (by first | exact .mk rfl rfl | exact .nil rfl) (by first | exact .mk rfl rfl | exact .nil rfl)), ⟨rfl, _, _, rfl⟩, (List.nil_sublist _), (by simp)⟩)
end Go.Proofs.Ytljgdbgcleibjaa.A
namespace Go.Proofs.Ytljgdbgcleibjaa.A
open Go Go.RowKit
set_option linter.unusedVariables false
set_option linter.unusedSimpArgs false
set_option maxRecDepth 100000
theorem TI.en47 : entersT Try.prog 47 := enters_of Try.func47 (by kernel_rfl) (by kernel_rfl)
theorem TI.en23 : entersT Try.prog 23 := enters_of Try.func23 (by kernel_rfl) (by kernel_rfl)
theorem TI.en22 : entersT Try.prog 22 := enters_of Try.func22 (by kernel_rfl) (by kernel_rfl)
theorem TI.en21 : entersT Try.prog 21 := enters_of Try.func21 (by kernel_rfl) (by kernel_rfl)
theorem TI.sl22 : sliceT Try.prog 22 = some 63 := by kernel_rfl
theorem TI.sz63 : szT Try.prog 63 = some 6 := by kernel_rfl
theorem TI.agg63 : aggT Try.prog 63 = some true := by kernel_rfl
theorem TI.zero63 : ZeroT Try.prog 63 [.v (.bool false), .v (.int .i64 0), .v (.int .i64 0), .v (.int .i64 0), .v (.int .u64 0), .v (.int .u64 0)] := ⟨[(.bool false), (.int .i64 0), (.int .i64 0), (.int .i64 0), (.int .u64 0), (.int .u64 0)], by kernel_rfl, (LeCells.refl _)⟩
theorem TI.f63_0 : fieldT Try.prog 63 0 = some (0, 4) := by kernel_rfl
theorem TI.sz4 : szT Try.prog 4 = some 1 := by kernel_rfl
theorem TI.agg4 : aggT Try.prog 4 = some false := by kernel_rfl
theorem TI.agg60 : aggT Try.prog 60 = some false := by kernel_rfl
theorem TI.f63_1 : fieldT Try.prog 63 1 = some (1, 47) := by kernel_rfl
theorem TI.en28 : entersT Try.prog 28 := enters_of Try.func28 (by kernel_rfl) (by kernel_rfl)
theorem TI.en29 : entersT Try.prog 29 := enters_of Try.func29 (by kernel_rfl) (by kernel_rfl)
theorem ixPut_ok (t : TreeV) (x : List It) (hI : Idx t x) (hl : x.length ≤ 1000) (p : Sp) (hp : Inr p) (g : Nat) : AW Try.prog 29 [.v (.pointer (some ⟨g, 0, none⟩)), .agg (p.cs.take 3), .v (.int .u64 p.nu)] [] [⟨g, true, .box [encT t]⟩] (fun r n => ∃ t' x', n = [⟨g, true, .box [encT t']⟩] ∧ Idx t' x' ∧ x'.length ≤ x.length + 1) := by
 refine aw_of_awp (rs := [6]) (nt := 39) (so := [⟨g, true, .box [encT t]⟩]) Try.func29 rfl rfl rfl rfl rfl (fun w0 C0 hq => ?_)
 have htn := good_len hI.good hl
 refine awp_seq ?_
 refine awp_region ?_
 refine r_box rfl rfl rfl (fun b4 => ?_)
 refine r_assign rfl rfl ?_
 refine awl_nil ?_
 refine x_then ?_
 refine awp_seq ?_
 refine awp_seq ?_
 refine awp_region ?_
 refine r_move rfl rfl ?_
 refine r_pnil rfl (by first | exact .pt _ _ | exact .nil | exact .v _ | exact .cp _) TI.un60 rfl ?_
 refine r_move rfl rfl ?_
 refine g_run rfl rfl rfl ?_
 refine r_move rfl rfl ?_
 refine g_run rfl rfl rfl ?_
 refine r_cmp rfl rfl rfl rfl ?_
 refine r_pickF rfl rfl rfl rfl ?_
 refine awl_nil ?_
 refine x_then ?_
 refine awp_cond rfl (fun hc0 => ?_) (fun hc0 => ?_)
 ·
  refine awp_seq ?_
  refine awp_region ?_
  refine r_assign rfl rfl ?_
  refine awl_nil ?_
  refine x_then ?_
  refine awp_ret ?_
  refine x_thenR ?_
  exact ⟨(.inl rfl), _, [⟨g, true, .box [encT t]⟩], (.one (by first | exact .mk rfl rfl | exact .nil rfl)), ⟨t, x, rfl, hI, by omega⟩, (by first | exact List.Sublist.refl _ | exact .cons_cons _ (.cons _ (.refl _)) | exact List.nil_sublist _ | exact .cons _ (.refl _) | exact .cons _ (.cons _ (.refl _)) | exact .cons _ (.cons _ (.cons _ (.refl _))) | exact .cons _ (.cons _ (.cons _ (.cons _ (.refl _)))) | exact .cons_cons _ (List.nil_sublist _)), (by simp)⟩
 ·
  refine awp_skip ?_
  refine x_then ?_
  refine awp_seq ?_
  refine awp_seq ?_
  refine awp_region ?_
  refine r_move rfl rfl ?_
  refine r_loadAb 0 rfl rfl TI.agg44 TI.sz44 rfl rfl ?_
  refine r_callO hq rfl rfl (.cons (.ev rfl rfl) (.cons (.ev rfl rfl) (.cons (.ev rfl rfl) .nil))) (At_ok t hI.good.wf p 18446744073709551615 g true) rfl TI.en47 (.cons _ (.cons_cons _ (List.nil_sublist _))) rfl (fun r nobjs hr => ?_)
  obtain ⟨rfl, v1, ok1, rfl⟩ := hr
  refine r_move rfl rfl ?_
  refine r_extract rfl rfl rfl ?_
  refine r_extract rfl rfl rfl ?_
  refine r_assign rfl rfl ?_
  refine r_assign rfl rfl ?_
  refine awl_nil ?_
  refine x_then ?_
  refine awp_seq ?_
  refine awp_region ?_
  refine r_move rfl rfl ?_
  refine r_move rfl rfl ?_
  refine g_cases (t' := 22) rfl (fun hg22 => ?_) (fun hg22 => ?_)
  ·
   refine g_run rfl rfl hg22 ?_
   refine r_move rfl rfl ?_
   refine g_run rfl rfl hg22 ?_
   refine r_move rfl rfl ?_
   refine g_run rfl rfl hg22 ?_
   refine r_cmp rfl rfl rfl rfl ?_
   refine r_pickT rfl hg22 rfl rfl ?_
   refine awl_nil ?_
   refine x_then ?_
   refine awp_cond rfl (fun hc1 => ?_) (fun hc1 => ?_)
   ·
    refine awp_seq ?_
    refine awp_region ?_
    refine r_assign rfl rfl ?_
    refine awl_nil ?_
    refine x_then ?_
    refine awp_ret ?_
    refine x_thenR ?_
    exact ⟨(.inl rfl), _, [⟨g, true, .box [encT t]⟩], (.one (by first | exact .mk rfl rfl | exact .nil rfl)), ⟨t, x, rfl, hI, by omega⟩, (by first | exact List.Sublist.refl _ | exact .cons_cons _ (.cons _ (.refl _)) | exact List.nil_sublist _ | exact .cons _ (.refl _) | exact .cons _ (.cons _ (.refl _)) | exact .cons _ (.cons _ (.cons _ (.refl _))) | exact .cons _ (.cons _ (.cons _ (.cons _ (.refl _)))) | exact .cons_cons _ (List.nil_sublist _)), (by simp)⟩
   ·
    refine awp_skip ?_
    refine x_then ?_
    refine awp_seq ?_
    refine awp_any (fun B S => ∃ t2 : TreeV, ∃ sl : List (Nat × SV), S = ⟨39, sl, [⟨b4, true, .box (p.cs.take 3)⟩, ⟨g, true, .box [encT (cond (B 12) t2 t)]⟩]⟩ ∧ find 0 sl = some (.a (.v (.pointer (some ⟨g, 0, none⟩)))) ∧ find 2 sl = some (.a (.v (.int .u64 p.nu))) ∧ find 4 sl = some (.a (.v (.pointer (some ⟨b4, 0, none⟩)))) ∧ (B 0 = true → find 27 sl = some (.a (.v (.pointer (some ⟨g, 0, none⟩))))) ∧ (B 1 = true → find 28 sl = some (.a (.v (.pointer (some ⟨g, 0, none⟩))))) ∧ (B 2 = true → find 29 sl = some (.a (.v (.pointer (some ⟨g, 0, none⟩))))) ∧ (B 3 = true → find 30 sl = some (.a (.v (.pointer (some ⟨g, 0 + 0, none⟩))))) ∧ (B 4 = true → find 31 sl = some (.a (encT t))) ∧ (B 5 = true → find 32 sl = some (.a (.agg (p.cs.take 3)))) ∧ (B 6 = true → find 33 sl = some (.a (.v (.int .u64 p.nu)))) ∧ (B 7 = true → find 34 sl = some (.a (spA p))) ∧ (B 8 = true → find 35 sl = some (.a (.v (.int .u64 p.nu)))) ∧ (B 9 = true → find 36 sl = some (.a (encT t2))) ∧ (B 10 = true → find 37 sl = some (.a (.v (.pointer (some ⟨g, 0, none⟩))))) ∧ (B 11 = true → find 38 sl = some (.a (.v (.pointer (some ⟨g, 0 + 0, none⟩))))) ∧ (B 9 = true → PutT t p p.nu t2)) TI.mixed rfl ⟨none, _, rfl, rfl, rfl, rfl, (fun h => by cases h), (fun h => by cases h), (fun h => by cases h), (fun h => by cases h), (fun h => by cases h), (fun h => by cases h), (fun h => by cases h), (fun h => by cases h), (fun h => by cases h), (fun h => by cases h), (fun h => by cases h), (fun h => by cases h), (fun h => by cases h)⟩ ⟨⟨⟨⟨⟨⟨⟨⟨⟨⟨⟨⟨⟨trivial
     , ⟨_, rfl, fun B S hBi hdep hcl => by
       rintro ⟨t2, sl, rfl, h0, h2, h4, f0, f1, f2, f3, f4, f5, f6, f7, f8, f9, f10, f11, p9⟩
       refine r_move h0 rfl ?_
       exact awl_nil ⟨rfl, t2, _, rfl, h0, h2, h4, (fun h => rfl), f1, f2, f3, f4, f5, f6, f7, f8, f9, f10, f11, p9⟩⟩⟩
     , ⟨_, rfl, fun B S hBi hdep hcl => by
       rintro ⟨t2, sl, rfl, h0, h2, h4, f0, f1, f2, f3, f4, f5, f6, f7, f8, f9, f10, f11, p9⟩
       refine r_move h0 rfl ?_
       exact awl_nil ⟨rfl, t2, _, rfl, h0, h2, h4, f0, (fun h => rfl), f2, f3, f4, f5, f6, f7, f8, f9, f10, f11, p9⟩⟩⟩
     , ⟨_, rfl, fun B S hBi hdep hcl => by
       rintro ⟨t2, sl, rfl, h0, h2, h4, f0, f1, f2, f3, f4, f5, f6, f7, f8, f9, f10, f11, p9⟩
       refine r_nilCheck (f1 (hdep 1 rfl)) (by first | exact .pt _ _ | exact .v _ | exact .cp _) rfl ?_
       exact awl_nil ⟨rfl, t2, _, rfl, h0, h2, h4, f0, f1, (fun h => rfl), f3, f4, f5, f6, f7, f8, f9, f10, f11, p9⟩⟩⟩
     , ⟨_, rfl, fun B S hBi hdep hcl => by
       rintro ⟨t2, sl, rfl, h0, h2, h4, f0, f1, f2, f3, f4, f5, f6, f7, f8, f9, f10, f11, p9⟩
       refine r_fieldb (f2 (hdep 2 rfl)) TI.f101_0 TI.sz24 rfl ?_
       exact awl_nil ⟨rfl, t2, _, rfl, h0, h2, h4, f0, f1, f2, (fun h => rfl), f4, f5, f6, f7, f8, f9, f10, f11, p9⟩⟩⟩
     , ⟨_, rfl, fun B S hBi hdep hcl => by
       rintro ⟨t2, sl, rfl, h0, h2, h4, f0, f1, f2, f3, f4, f5, f6, f7, f8, f9, f10, f11, p9⟩
       have e12 : B 12 = false := by cases h : B 12 with | false => rfl | true => exact absurd (hcl 12 4 h rfl) (by rw [hBi]; decide)
       rw [e12]
       refine r_load1b 1 (f3 (hdep 3 rfl)) rfl rfl TI.agg24 rfl ?_
       exact awl_nil ⟨rfl, t2, ((31, .a (encT t)) :: sl), (by show _ = (⟨39, _, [⟨b4, true, .box (p.cs.take 3)⟩, ⟨g, true, .box [encT (cond (B 12) t2 t)]⟩]⟩ : AState); rw [e12]; rfl), h0, h2, h4, f0, f1, f2, f3, (fun h => rfl), f5, f6, f7, f8, f9, f10, f11, p9⟩⟩⟩
     , ⟨_, rfl, fun B S hBi hdep hcl => by
       rintro ⟨t2, sl, rfl, h0, h2, h4, f0, f1, f2, f3, f4, f5, f6, f7, f8, f9, f10, f11, p9⟩
       refine r_loadAb 0 h4 rfl TI.agg44 TI.sz44 rfl rfl ?_
       exact awl_nil ⟨rfl, t2, _, rfl, h0, h2, h4, f0, f1, f2, f3, f4, (fun h => rfl), f6, f7, f8, f9, f10, f11, p9⟩⟩⟩
     , ⟨_, rfl, fun B S hBi hdep hcl => by
       rintro ⟨t2, sl, rfl, h0, h2, h4, f0, f1, f2, f3, f4, f5, f6, f7, f8, f9, f10, f11, p9⟩
       refine r_move h2 rfl ?_
       exact awl_nil ⟨rfl, t2, _, rfl, h0, h2, h4, f0, f1, f2, f3, f4, f5, (fun h => rfl), f7, f8, f9, f10, f11, p9⟩⟩⟩
     , ⟨_, rfl, fun B S hBi hdep hcl => by
       rintro ⟨t2, sl, rfl, h0, h2, h4, f0, f1, f2, f3, f4, f5, f6, f7, f8, f9, f10, f11, p9⟩
       refine r_build (parts := [(0, .tmp 32), (1, .tmp 33)]) rfl TI.pl47 TI.zero47 (parts_cons (f5 (hdep 5 rfl)) (parts_cons (f6 (hdep 6 rfl)) parts_nil)) rfl rfl ?_
       exact awl_nil ⟨rfl, t2, _, rfl, h0, h2, h4, f0, f1, f2, f3, f4, f5, f6, (fun h => rfl), f8, f9, f10, f11, p9⟩⟩⟩
     , ⟨_, rfl, fun B S hBi hdep hcl => by
       rintro ⟨t2, sl, rfl, h0, h2, h4, f0, f1, f2, f3, f4, f5, f6, f7, f8, f9, f10, f11, p9⟩
       refine r_move h2 rfl ?_
       exact awl_nil ⟨rfl, t2, _, rfl, h0, h2, h4, f0, f1, f2, f3, f4, f5, f6, f7, (fun h => rfl), f9, f10, f11, p9⟩⟩⟩
     , ⟨_, rfl, fun B S hBi hdep hcl => by
       rintro ⟨t2, sl, rfl, h0, h2, h4, f0, f1, f2, f3, f4, f5, f6, f7, f8, f9, f10, f11, p9⟩
       have e12 : B 12 = false := by cases h : B 12 with | false => rfl | true => exact absurd (hcl 12 9 h rfl) (by rw [hBi]; decide)
       rw [e12]
       refine r_call0 hq rfl rfl (.cons (.ev (f4 (hdep 4 rfl)) rfl) (.cons (.ev (f7 (hdep 7 rfl)) rfl) (.cons (.ev (f8 (hdep 8 rfl)) rfl) .nil))) (TPut_ok t hI.good.wf htn p p.nu) rfl TI.en23 rfl (fun r hr => ?_)
       obtain ⟨t2, htq, rfl⟩ := hr
       exact awl_nil ⟨rfl, t2, ((36, .a (encT t2)) :: sl), (by show _ = (⟨39, _, [⟨b4, true, .box (p.cs.take 3)⟩, ⟨g, true, .box [encT (cond (B 12) t2 t)]⟩]⟩ : AState); rw [e12]; rfl), h0, h2, h4, f0, f1, f2, f3, f4, f5, f6, f7, f8, (fun h => rfl), f10, f11, (fun _ => htq)⟩⟩⟩
     , ⟨_, rfl, fun B S hBi hdep hcl => by
       rintro ⟨t2, sl, rfl, h0, h2, h4, f0, f1, f2, f3, f4, f5, f6, f7, f8, f9, f10, f11, p9⟩
       refine r_nilCheck (f0 (hdep 0 rfl)) (by first | exact .pt _ _ | exact .v _ | exact .cp _) rfl ?_
       exact awl_nil ⟨rfl, t2, _, rfl, h0, h2, h4, f0, f1, f2, f3, f4, f5, f6, f7, f8, f9, (fun h => rfl), f11, p9⟩⟩⟩
     , ⟨_, rfl, fun B S hBi hdep hcl => by
       rintro ⟨t2, sl, rfl, h0, h2, h4, f0, f1, f2, f3, f4, f5, f6, f7, f8, f9, f10, f11, p9⟩
       refine r_fieldb (f10 (hdep 10 rfl)) TI.f101_0 TI.sz24 rfl ?_
       exact awl_nil ⟨rfl, t2, _, rfl, h0, h2, h4, f0, f1, f2, f3, f4, f5, f6, f7, f8, f9, f10, (fun h => rfl), p9⟩⟩⟩
     , ⟨_, rfl, fun B S hBi hdep hcl => by
       rintro ⟨t2, sl, rfl, h0, h2, h4, f0, f1, f2, f3, f4, f5, f6, f7, f8, f9, f10, f11, p9⟩
       rw [hBi]
       refine r_storeT 1 (f11 (hdep 11 rfl)) rfl (f9 (hdep 9 rfl)) TI.sz24 ?_
       exact awl_nil ⟨rfl, t2, sl, (by show _ = (⟨39, _, [⟨b4, true, .box (p.cs.take 3)⟩, ⟨g, true, .box [encT (cond true t2 t)]⟩]⟩ : AState); rfl), h0, h2, h4, f0, f1, f2, f3, f4, f5, f6, f7, f8, f9, f10, f11, p9⟩⟩⟩
     (fun B S hall => by
      rintro ⟨t2, sl, rfl, h0, h2, h4, f0, f1, f2, f3, f4, f5, f6, f7, f8, f9, f10, f11, p9⟩
      rw [hall 12 (by decide)]
      have hpx := p9 (hall 9 (by decide))
      refine x_then ?_
      refine awp_weaken (S' := ⟨39, [(0, .a (.v (.pointer (some ⟨g, 0, none⟩)))), (2, .a (.v (.int .u64 p.nu))), (4, .a (.v (.pointer (some ⟨b4, 0, none⟩))))], [⟨b4, true, .box (p.cs.take 3)⟩, ⟨g, true, .box [encT t2]⟩]⟩) ⟨rfl, (Slots.cons h0 (.refl _) (Slots.cons h2 (.refl _) (Slots.cons h4 (.refl _) Slots.nil))), (List.Sublist.refl _)⟩ ?_
      refine awp_seq ?_
      refine awp_region ?_
      refine r_assign rfl rfl ?_
      refine awl_nil ?_
      refine x_then ?_
      refine awp_ret ?_
      exact ⟨(.inl rfl), _, [⟨g, true, .box [encT t2]⟩], (.one (by first | exact .mk rfl rfl | exact .nil rfl)), ⟨t2, _, rfl, hI.put hp hpx, refPut_len _ _ _⟩, (by first | exact List.Sublist.refl _ | exact .cons_cons _ (.cons _ (.refl _)) | exact List.nil_sublist _ | exact .cons _ (.refl _) | exact .cons _ (.cons _ (.refl _)) | exact .cons _ (.cons _ (.cons _ (.refl _))) | exact .cons _ (.cons _ (.cons _ (.cons _ (.refl _)))) | exact .cons_cons _ (List.nil_sublist _)), (by simp)⟩)
  ·
   refine g_skip rfl rfl hg22 rfl ?_
   refine g_skip rfl rfl hg22 rfl ?_
   refine g_skip rfl rfl hg22 rfl ?_
   refine r_pickF rfl hg22 rfl rfl ?_
   refine awl_nil ?_
   refine x_then ?_
   refine awp_condF rfl ?_
   refine awp_skip ?_
   refine x_then ?_
   refine awp_seq ?_
   refine awp_any (fun B S => ∃ t2 : TreeV, ∃ sl : List (Nat × SV), S = ⟨39, sl, [⟨b4, true, .box (p.cs.take 3)⟩, ⟨g, true, .box [encT (cond (B 12) t2 t)]⟩]⟩ ∧ find 0 sl = some (.a (.v (.pointer (some ⟨g, 0, none⟩)))) ∧ find 2 sl = some (.a (.v (.int .u64 p.nu))) ∧ find 4 sl = some (.a (.v (.pointer (some ⟨b4, 0, none⟩)))) ∧ (B 0 = true → find 27 sl = some (.a (.v (.pointer (some ⟨g, 0, none⟩))))) ∧ (B 1 = true → find 28 sl = some (.a (.v (.pointer (some ⟨g, 0, none⟩))))) ∧ (B 2 = true → find 29 sl = some (.a (.v (.pointer (some ⟨g, 0, none⟩))))) ∧ (B 3 = true → find 30 sl = some (.a (.v (.pointer (some ⟨g, 0 + 0, none⟩))))) ∧ (B 4 = true → find 31 sl = some (.a (encT t))) ∧ (B 5 = true → find 32 sl = some (.a (.agg (p.cs.take 3)))) ∧ (B 6 = true → find 33 sl = some (.a (.v (.int .u64 p.nu)))) ∧ (B 7 = true → find 34 sl = some (.a (spA p))) ∧ (B 8 = true → find 35 sl = some (.a (.v (.int .u64 p.nu)))) ∧ (B 9 = true → find 36 sl = some (.a (encT t2))) ∧ (B 10 = true → find 37 sl = some (.a (.v (.pointer (some ⟨g, 0, none⟩))))) ∧ (B 11 = true → find 38 sl = some (.a (.v (.pointer (some ⟨g, 0 + 0, none⟩))))) ∧ (B 9 = true → PutT t p p.nu t2)) TI.mixed rfl ⟨none, _, rfl, rfl, rfl, rfl, (fun h => by cases h), (fun h => by cases h), (fun h => by cases h), (fun h => by cases h), (fun h => by cases h), (fun h => by cases h), (fun h => by cases h), (fun h => by cases h), (fun h => by cases h), (fun h => by cases h), (fun h => by cases h), (fun h => by cases h), (fun h => by cases h)⟩ ⟨⟨⟨⟨⟨⟨⟨⟨⟨⟨⟨⟨⟨trivial
    , ⟨_, rfl, fun B S hBi hdep hcl => by
      rintro ⟨t2, sl, rfl, h0, h2, h4, f0, f1, f2, f3, f4, f5, f6, f7, f8, f9, f10, f11, p9⟩
      refine r_move h0 rfl ?_
      exact awl_nil ⟨rfl, t2, _, rfl, h0, h2, h4, (fun h => rfl), f1, f2, f3, f4, f5, f6, f7, f8, f9, f10, f11, p9⟩⟩⟩
    , ⟨_, rfl, fun B S hBi hdep hcl => by
      rintro ⟨t2, sl, rfl, h0, h2, h4, f0, f1, f2, f3, f4, f5, f6, f7, f8, f9, f10, f11, p9⟩
      refine r_move h0 rfl ?_
      exact awl_nil ⟨rfl, t2, _, rfl, h0, h2, h4, f0, (fun h => rfl), f2, f3, f4, f5, f6, f7, f8, f9, f10, f11, p9⟩⟩⟩
    , ⟨_, rfl, fun B S hBi hdep hcl => by
      rintro ⟨t2, sl, rfl, h0, h2, h4, f0, f1, f2, f3, f4, f5, f6, f7, f8, f9, f10, f11, p9⟩
      refine r_nilCheck (f1 (hdep 1 rfl)) (by first | exact .pt _ _ | exact .v _ | exact .cp _) rfl ?_
      exact awl_nil ⟨rfl, t2, _, rfl, h0, h2, h4, f0, f1, (fun h => rfl), f3, f4, f5, f6, f7, f8, f9, f10, f11, p9⟩⟩⟩
    , ⟨_, rfl, fun B S hBi hdep hcl => by
      rintro ⟨t2, sl, rfl, h0, h2, h4, f0, f1, f2, f3, f4, f5, f6, f7, f8, f9, f10, f11, p9⟩
      refine r_fieldb (f2 (hdep 2 rfl)) TI.f101_0 TI.sz24 rfl ?_
      exact awl_nil ⟨rfl, t2, _, rfl, h0, h2, h4, f0, f1, f2, (fun h => rfl), f4, f5, f6, f7, f8, f9, f10, f11, p9⟩⟩⟩
    , ⟨_, rfl, fun B S hBi hdep hcl => by
      rintro ⟨t2, sl, rfl, h0, h2, h4, f0, f1, f2, f3, f4, f5, f6, f7, f8, f9, f10, f11, p9⟩
      have e12 : B 12 = false := by cases h : B 12 with | false => rfl | true => exact absurd (hcl 12 4 h rfl) (by rw [hBi]; decide)
      rw [e12]
      refine r_load1b 1 (f3 (hdep 3 rfl)) rfl rfl TI.agg24 rfl ?_
      exact awl_nil ⟨rfl, t2, ((31, .a (encT t)) :: sl), (by show _ = (⟨39, _, [⟨b4, true, .box (p.cs.take 3)⟩, ⟨g, true, .box [encT (cond (B 12) t2 t)]⟩]⟩ : AState); rw [e12]; rfl), h0, h2, h4, f0, f1, f2, f3, (fun h => rfl), f5, f6, f7, f8, f9, f10, f11, p9⟩⟩⟩
    , ⟨_, rfl, fun B S hBi hdep hcl => by
      rintro ⟨t2, sl, rfl, h0, h2, h4, f0, f1, f2, f3, f4, f5, f6, f7, f8, f9, f10, f11, p9⟩
      refine r_loadAb 0 h4 rfl TI.agg44 TI.sz44 rfl rfl ?_
      exact awl_nil ⟨rfl, t2, _, rfl, h0, h2, h4, f0, f1, f2, f3, f4, (fun h => rfl), f6, f7, f8, f9, f10, f11, p9⟩⟩⟩
    , ⟨_, rfl, fun B S hBi hdep hcl => by
      rintro ⟨t2, sl, rfl, h0, h2, h4, f0, f1, f2, f3, f4, f5, f6, f7, f8, f9, f10, f11, p9⟩
      refine r_move h2 rfl ?_
      exact awl_nil ⟨rfl, t2, _, rfl, h0, h2, h4, f0, f1, f2, f3, f4, f5, (fun h => rfl), f7, f8, f9, f10, f11, p9⟩⟩⟩
    , ⟨_, rfl, fun B S hBi hdep hcl => by
      rintro ⟨t2, sl, rfl, h0, h2, h4, f0, f1, f2, f3, f4, f5, f6, f7, f8, f9, f10, f11, p9⟩
      refine r_build (parts := [(0, .tmp 32), (1, .tmp 33)]) rfl TI.pl47 TI.zero47 (parts_cons (f5 (hdep 5 rfl)) (parts_cons (f6 (hdep 6 rfl)) parts_nil)) rfl rfl ?_
      exact awl_nil ⟨rfl, t2, _, rfl, h0, h2, h4, f0, f1, f2, f3, f4, f5, f6, (fun h => rfl), f8, f9, f10, f11, p9⟩⟩⟩
    , ⟨_, rfl, fun B S hBi hdep hcl => by
      rintro ⟨t2, sl, rfl, h0, h2, h4, f0, f1, f2, f3, f4, f5, f6, f7, f8, f9, f10, f11, p9⟩
      refine r_move h2 rfl ?_
      exact awl_nil ⟨rfl, t2, _, rfl, h0, h2, h4, f0, f1, f2, f3, f4, f5, f6, f7, (fun h => rfl), f9, f10, f11, p9⟩⟩⟩
    , ⟨_, rfl, fun B S hBi hdep hcl => by
      rintro ⟨t2, sl, rfl, h0, h2, h4, f0, f1, f2, f3, f4, f5, f6, f7, f8, f9, f10, f11, p9⟩
      have e12 : B 12 = false := by cases h : B 12 with | false => rfl | true => exact absurd (hcl 12 9 h rfl) (by rw [hBi]; decide)
      rw [e12]
      refine r_call0 hq rfl rfl (.cons (.ev (f4 (hdep 4 rfl)) rfl) (.cons (.ev (f7 (hdep 7 rfl)) rfl) (.cons (.ev (f8 (hdep 8 rfl)) rfl) .nil))) (TPut_ok t hI.good.wf htn p p.nu) rfl TI.en23 rfl (fun r hr => ?_)
      obtain ⟨t2, htq, rfl⟩ := hr
      exact awl_nil ⟨rfl, t2, ((36, .a (encT t2)) :: sl), (by show _ = (⟨39, _, [⟨b4, true, .box (p.cs.take 3)⟩, ⟨g, true, .box [encT (cond (B 12) t2 t)]⟩]⟩ : AState); rw [e12]; rfl), h0, h2, h4, f0, f1, f2, f3, f4, f5, f6, f7, f8, (fun h => rfl), f10, f11, (fun _ => htq)⟩⟩⟩
    , ⟨_, rfl, fun B S hBi hdep hcl => by
      rintro ⟨t2, sl, rfl, h0, h2, h4, f0, f1, f2, f3, f4, f5, f6, f7, f8, f9, f10, f11, p9⟩
      refine r_nilCheck (f0 (hdep 0 rfl)) (by first | exact .pt _ _ | exact .v _ | exact .cp _) rfl ?_
      exact awl_nil ⟨rfl, t2, _, rfl, h0, h2, h4, f0, f1, f2, f3, f4, f5, f6, f7, f8, f9, (fun h => rfl), f11, p9⟩⟩⟩
    , ⟨_, rfl, fun B S hBi hdep hcl => by
      rintro ⟨t2, sl, rfl, h0, h2, h4, f0, f1, f2, f3, f4, f5, f6, f7, f8, f9, f10, f11, p9⟩
      refine r_fieldb (f10 (hdep 10 rfl)) TI.f101_0 TI.sz24 rfl ?_
      exact awl_nil ⟨rfl, t2, _, rfl, h0, h2, h4, f0, f1, f2, f3, f4, f5, f6, f7, f8, f9, f10, (fun h => rfl), p9⟩⟩⟩
    , ⟨_, rfl, fun B S hBi hdep hcl => by
      rintro ⟨t2, sl, rfl, h0, h2, h4, f0, f1, f2, f3, f4, f5, f6, f7, f8, f9, f10, f11, p9⟩
      rw [hBi]
      refine r_storeT 1 (f11 (hdep 11 rfl)) rfl (f9 (hdep 9 rfl)) TI.sz24 ?_
      exact awl_nil ⟨rfl, t2, sl, (by show _ = (⟨39, _, [⟨b4, true, .box (p.cs.take 3)⟩, ⟨g, true, .box [encT (cond true t2 t)]⟩]⟩ : AState); rfl), h0, h2, h4, f0, f1, f2, f3, f4, f5, f6, f7, f8, f9, f10, f11, p9⟩⟩⟩
    (fun B S hall => by
     rintro ⟨t2, sl, rfl, h0, h2, h4, f0, f1, f2, f3, f4, f5, f6, f7, f8, f9, f10, f11, p9⟩
     rw [hall 12 (by decide)]
     have hpx := p9 (hall 9 (by decide))
     refine x_then ?_
     refine awp_weaken (S' := ⟨39, [(0, .a (.v (.pointer (some ⟨g, 0, none⟩)))), (2, .a (.v (.int .u64 p.nu))), (4, .a (.v (.pointer (some ⟨b4, 0, none⟩))))], [⟨b4, true, .box (p.cs.take 3)⟩, ⟨g, true, .box [encT t2]⟩]⟩) ⟨rfl, (Slots.cons h0 (.refl _) (Slots.cons h2 (.refl _) (Slots.cons h4 (.refl _) Slots.nil))), (List.Sublist.refl _)⟩ ?_
     refine awp_seq ?_
     refine awp_region ?_
     refine r_assign rfl rfl ?_
     refine awl_nil ?_
     refine x_then ?_
     refine awp_ret ?_
     exact ⟨(.inl rfl), _, [⟨g, true, .box [encT t2]⟩], (.one (by first | exact .mk rfl rfl | exact .nil rfl)), ⟨t2, _, rfl, hI.put hp hpx, refPut_len _ _ _⟩, (by first | exact List.Sublist.refl _ | exact .cons_cons _ (.cons _ (.refl _)) | exact List.nil_sublist _ | exact .cons _ (.refl _) | exact .cons _ (.cons _ (.refl _)) | exact .cons _ (.cons _ (.cons _ (.refl _))) | exact .cons _ (.cons _ (.cons _ (.cons _ (.refl _)))) | exact .cons_cons _ (List.nil_sublist _)), (by simp)⟩)
theorem ixDrop_ok (t : TreeV) (x : List It) (hI : Idx t x) (hl : x.length ≤ 1000) (p : Sp) (hp : Inr p) (g : Nat) : AW Try.prog 28 [.v (.pointer (some ⟨g, 0, none⟩)), .agg (p.cs.take 3), .v (.int .u64 p.nu)] [] [⟨g, true, .box [encT t]⟩] (fun r n => ∃ t' x', n = [⟨g, true, .box [encT t']⟩] ∧ Idx t' x' ∧ x'.length ≤ x.length + 1) := by
 refine aw_of_awp (rs := [6]) (nt := 35) (so := [⟨g, true, .box [encT t]⟩]) Try.func28 rfl rfl rfl rfl rfl (fun w0 C0 hq => ?_)
 have htn := good_len hI.good hl
 refine awp_seq ?_
 refine awp_region ?_
 refine r_box rfl rfl rfl (fun b4 => ?_)
 refine r_assign rfl rfl ?_
 refine awl_nil ?_
 refine x_then ?_
 refine awp_seq ?_
 refine awp_seq ?_
 refine awp_region ?_
 refine r_move rfl rfl ?_
 refine r_pnil rfl (by first | exact .pt _ _ | exact .nil | exact .v _ | exact .cp _) TI.un60 rfl ?_
 refine awl_nil ?_
 refine x_then ?_
 refine awp_cond rfl (fun hc0 => ?_) (fun hc0 => ?_)
 ·
  exfalso; cases hc0
 ·
  refine awp_skip ?_
  refine x_then ?_
  refine awp_seq ?_
  refine awp_region ?_
  refine r_loadAb 0 rfl rfl TI.agg44 TI.sz44 rfl rfl ?_
  refine r_move rfl rfl ?_
  refine r_build (parts := [(0, .tmp 12), (1, .tmp 13)]) rfl TI.pl47 TI.zero47 rfl rfl rfl ?_
  refine r_alloc TI.zero47 rfl (fun b7 => ?_)
  refine r_store 0 rfl rfl rfl TI.sz47 rfl rfl rfl ?_
  refine awl_nil ?_
  refine x_then ?_
  refine awp_seq ?_
  refine awp_seq ?_
  refine awp_drawS [16, 17, 18, 19, 20, 21, 15, 22, 23, 8] [_, _, _, _, _, _, _, _, _, _] [] [] TI.mixed rfl rfl rfl ⟨⟨⟨⟨⟨⟨⟨⟨⟨⟨trivial
   , ⟨_, rfl, fun sl hd hr ho => by
     refine r_move (hr 0 _ rfl rfl rfl) rfl ?_
     exact awl_nil ⟨rfl, post_put⟩⟩⟩
   , ⟨_, rfl, fun sl hd hr ho => by
     refine r_nilCheck (hd 0 _ rfl rfl rfl) (by first | exact .pt _ _ | exact .v _ | exact .cp _) rfl ?_
     exact awl_nil ⟨rfl, post_put⟩⟩⟩
   , ⟨_, rfl, fun sl hd hr ho => by
     refine r_fieldb (hd 1 _ rfl rfl rfl) TI.f101_0 TI.sz24 rfl ?_
     exact awl_nil ⟨rfl, post_put⟩⟩⟩
   , ⟨_, rfl, fun sl hd hr ho => by
     refine r_load1b 2 (hd 2 _ rfl rfl rfl) rfl rfl TI.agg24 rfl ?_
     exact awl_nil ⟨rfl, post_put⟩⟩⟩
   , ⟨_, rfl, fun sl hd hr ho => by
     refine r_loadAb 0 (hr 7 _ rfl rfl rfl) rfl TI.agg47 TI.sz47 rfl rfl ?_
     exact awl_nil ⟨rfl, post_put⟩⟩⟩
   , ⟨_, rfl, fun sl hd hr ho => by
     refine r_call0 hq rfl rfl (.cons (.ev (hd 3 _ rfl rfl rfl) rfl) (.cons (.ev (hd 4 _ rfl rfl rfl) rfl) .nil)) (Get_ok t hI.good.wf p) rfl TI.en22 rfl (fun r hr => ?_)
     obtain rfl := hr
     exact awl_nil ⟨rfl, post_put⟩⟩⟩
   , ⟨_, rfl, fun sl hd hr ho => by
     refine r_move (hd 5 _ rfl rfl rfl) rfl ?_
     exact awl_nil ⟨rfl, post_put⟩⟩⟩
   , ⟨_, rfl, fun sl hd hr ho => by
     refine r_extract (hd 6 _ rfl rfl rfl) rfl rfl ?_
     exact awl_nil ⟨rfl, post_put⟩⟩⟩
   , ⟨_, rfl, fun sl hd hr ho => by
     refine r_extract (hd 6 _ rfl rfl rfl) rfl rfl ?_
     exact awl_nil ⟨rfl, post_put⟩⟩⟩
   , ⟨_, rfl, fun sl hd hr ho => by
     refine r_assign (hd 7 _ rfl rfl rfl) rfl ?_
     exact awl_nil ⟨rfl, post_put⟩⟩⟩
   (by rfl) ?_
  refine r_assign rfl rfl ?_
  refine awl_nil ?_
  refine x_then ?_
  refine awp_seq ?_
  refine awp_region ?_
  refine r_move rfl rfl ?_
  refine r_not rfl rfl ?_
  refine awl_nil ?_
  refine x_then ?_
  refine awp_cond rfl (fun hc1 => ?_) (fun hc1 => ?_)
  ·
   refine awp_seq ?_
   refine awp_region ?_
   refine r_assign rfl rfl ?_
   refine awl_nil ?_
   refine x_then ?_
   refine awp_ret ?_
   refine x_thenR ?_
   exact ⟨(.inl rfl), _, [⟨g, true, .box [encT t]⟩], (.one (by first | exact .mk rfl rfl | exact .nil rfl)), ⟨t, x, rfl, hI, by omega⟩, (by first | exact List.Sublist.refl _ | exact .cons_cons _ (.cons _ (.refl _)) | exact List.nil_sublist _ | exact .cons _ (.refl _) | exact .cons _ (.cons _ (.refl _)) | exact .cons _ (.cons _ (.cons _ (.refl _))) | exact .cons _ (.cons _ (.cons _ (.cons _ (.refl _)))) | exact .cons_cons _ (List.nil_sublist _)), (by simp)⟩
  ·
   refine awp_skip ?_
   refine x_then ?_
   refine awp_seq ?_
   refine awp_any (fun B S => ∃ t2 : TreeV, ∃ sl : List (Nat × SV), S = ⟨35, sl, [⟨b7, true, .box p.cs⟩, ⟨b4, true, .box (p.cs.take 3)⟩, ⟨g, true, .box [encT (cond (B 9) t2 t)]⟩]⟩ ∧ find 0 sl = some (.a (.v (.pointer (some ⟨g, 0, none⟩)))) ∧ find 2 sl = some (.a (.v (.int .u64 p.nu))) ∧ find 7 sl = some (.a (.v (.pointer (some ⟨b7, 0, none⟩)))) ∧ (B 0 = true → find 26 sl = some (.a (.v (.pointer (some ⟨g, 0, none⟩))))) ∧ (B 1 = true → find 27 sl = some (.a (.v (.pointer (some ⟨g, 0, none⟩))))) ∧ (B 2 = true → find 28 sl = some (.a (.v (.pointer (some ⟨g, 0, none⟩))))) ∧ (B 3 = true → find 29 sl = some (.a (.v (.pointer (some ⟨g, 0 + 0, none⟩))))) ∧ (B 4 = true → find 30 sl = some (.a (encT t))) ∧ (B 5 = true → find 31 sl = some (.a (spA p))) ∧ (B 6 = true → find 32 sl = some (.a (encT t2))) ∧ (B 7 = true → find 33 sl = some (.a (.v (.pointer (some ⟨g, 0, none⟩))))) ∧ (B 8 = true → find 34 sl = some (.a (.v (.pointer (some ⟨g, 0 + 0, none⟩))))) ∧ (B 6 = true → DelT t p t2)) TI.mixed rfl ⟨none, _, rfl, rfl, rfl, rfl, (fun h => by cases h), (fun h => by cases h), (fun h => by cases h), (fun h => by cases h), (fun h => by cases h), (fun h => by cases h), (fun h => by cases h), (fun h => by cases h), (fun h => by cases h), (fun h => by cases h)⟩ ⟨⟨⟨⟨⟨⟨⟨⟨⟨⟨trivial
    , ⟨_, rfl, fun B S hBi hdep hcl => by
      rintro ⟨t2, sl, rfl, h0, h2, h7, f0, f1, f2, f3, f4, f5, f6, f7, f8, p6⟩
      refine r_move h0 rfl ?_
      exact awl_nil ⟨rfl, t2, _, rfl, h0, h2, h7, (fun h => rfl), f1, f2, f3, f4, f5, f6, f7, f8, p6⟩⟩⟩
    , ⟨_, rfl, fun B S hBi hdep hcl => by
      rintro ⟨t2, sl, rfl, h0, h2, h7, f0, f1, f2, f3, f4, f5, f6, f7, f8, p6⟩
      refine r_move h0 rfl ?_
      exact awl_nil ⟨rfl, t2, _, rfl, h0, h2, h7, f0, (fun h => rfl), f2, f3, f4, f5, f6, f7, f8, p6⟩⟩⟩
    , ⟨_, rfl, fun B S hBi hdep hcl => by
      rintro ⟨t2, sl, rfl, h0, h2, h7, f0, f1, f2, f3, f4, f5, f6, f7, f8, p6⟩
      refine r_nilCheck (f1 (hdep 1 rfl)) (by first | exact .pt _ _ | exact .v _ | exact .cp _) rfl ?_
      exact awl_nil ⟨rfl, t2, _, rfl, h0, h2, h7, f0, f1, (fun h => rfl), f3, f4, f5, f6, f7, f8, p6⟩⟩⟩
    , ⟨_, rfl, fun B S hBi hdep hcl => by
      rintro ⟨t2, sl, rfl, h0, h2, h7, f0, f1, f2, f3, f4, f5, f6, f7, f8, p6⟩
      refine r_fieldb (f2 (hdep 2 rfl)) TI.f101_0 TI.sz24 rfl ?_
      exact awl_nil ⟨rfl, t2, _, rfl, h0, h2, h7, f0, f1, f2, (fun h => rfl), f4, f5, f6, f7, f8, p6⟩⟩⟩
    , ⟨_, rfl, fun B S hBi hdep hcl => by
      rintro ⟨t2, sl, rfl, h0, h2, h7, f0, f1, f2, f3, f4, f5, f6, f7, f8, p6⟩
      have e9 : B 9 = false := by cases h : B 9 with | false => rfl | true => exact absurd (hcl 9 4 h rfl) (by rw [hBi]; decide)
      rw [e9]
      refine r_load1b 2 (f3 (hdep 3 rfl)) rfl rfl TI.agg24 rfl ?_
      exact awl_nil ⟨rfl, t2, ((30, .a (encT t)) :: sl), (by show _ = (⟨35, _, [⟨b7, true, .box p.cs⟩, ⟨b4, true, .box (p.cs.take 3)⟩, ⟨g, true, .box [encT (cond (B 9) t2 t)]⟩]⟩ : AState); rw [e9]; rfl), h0, h2, h7, f0, f1, f2, f3, (fun h => rfl), f5, f6, f7, f8, p6⟩⟩⟩
    , ⟨_, rfl, fun B S hBi hdep hcl => by
      rintro ⟨t2, sl, rfl, h0, h2, h7, f0, f1, f2, f3, f4, f5, f6, f7, f8, p6⟩
      refine r_loadAb 0 h7 rfl TI.agg47 TI.sz47 rfl rfl ?_
      exact awl_nil ⟨rfl, t2, _, rfl, h0, h2, h7, f0, f1, f2, f3, f4, (fun h => rfl), f6, f7, f8, p6⟩⟩⟩
    , ⟨_, rfl, fun B S hBi hdep hcl => by
      rintro ⟨t2, sl, rfl, h0, h2, h7, f0, f1, f2, f3, f4, f5, f6, f7, f8, p6⟩
      have e9 : B 9 = false := by cases h : B 9 with | false => rfl | true => exact absurd (hcl 9 6 h rfl) (by rw [hBi]; decide)
      rw [e9]
      refine r_call0 hq rfl rfl (.cons (.ev (f4 (hdep 4 rfl)) rfl) (.cons (.ev (f5 (hdep 5 rfl)) rfl) .nil)) (TDel_ok t hI.good.wf htn p) rfl TI.en21 rfl (fun r hr => ?_)
      obtain ⟨t2, htq, rfl⟩ := hr
      exact awl_nil ⟨rfl, t2, ((32, .a (encT t2)) :: sl), (by show _ = (⟨35, _, [⟨b7, true, .box p.cs⟩, ⟨b4, true, .box (p.cs.take 3)⟩, ⟨g, true, .box [encT (cond (B 9) t2 t)]⟩]⟩ : AState); rw [e9]; rfl), h0, h2, h7, f0, f1, f2, f3, f4, f5, (fun h => rfl), f7, f8, (fun _ => htq)⟩⟩⟩
    , ⟨_, rfl, fun B S hBi hdep hcl => by
      rintro ⟨t2, sl, rfl, h0, h2, h7, f0, f1, f2, f3, f4, f5, f6, f7, f8, p6⟩
      refine r_nilCheck (f0 (hdep 0 rfl)) (by first | exact .pt _ _ | exact .v _ | exact .cp _) rfl ?_
      exact awl_nil ⟨rfl, t2, _, rfl, h0, h2, h7, f0, f1, f2, f3, f4, f5, f6, (fun h => rfl), f8, p6⟩⟩⟩
    , ⟨_, rfl, fun B S hBi hdep hcl => by
      rintro ⟨t2, sl, rfl, h0, h2, h7, f0, f1, f2, f3, f4, f5, f6, f7, f8, p6⟩
      refine r_fieldb (f7 (hdep 7 rfl)) TI.f101_0 TI.sz24 rfl ?_
      exact awl_nil ⟨rfl, t2, _, rfl, h0, h2, h7, f0, f1, f2, f3, f4, f5, f6, f7, (fun h => rfl), p6⟩⟩⟩
    , ⟨_, rfl, fun B S hBi hdep hcl => by
      rintro ⟨t2, sl, rfl, h0, h2, h7, f0, f1, f2, f3, f4, f5, f6, f7, f8, p6⟩
      rw [hBi]
      refine r_storeT 2 (f8 (hdep 8 rfl)) rfl (f6 (hdep 6 rfl)) TI.sz24 ?_
      exact awl_nil ⟨rfl, t2, sl, (by show _ = (⟨35, _, [⟨b7, true, .box p.cs⟩, ⟨b4, true, .box (p.cs.take 3)⟩, ⟨g, true, .box [encT (cond true t2 t)]⟩]⟩ : AState); rfl), h0, h2, h7, f0, f1, f2, f3, f4, f5, f6, f7, f8, p6⟩⟩⟩
    (fun B S hall => by
     rintro ⟨t2, sl, rfl, h0, h2, h7, f0, f1, f2, f3, f4, f5, f6, f7, f8, p6⟩
     rw [hall 9 (by decide)]
     have hpx := p6 (hall 6 (by decide))
     refine x_then ?_
     refine awp_weaken (S' := ⟨35, [(0, .a (.v (.pointer (some ⟨g, 0, none⟩)))), (2, .a (.v (.int .u64 p.nu))), (7, .a (.v (.pointer (some ⟨b7, 0, none⟩))))], [⟨b7, true, .box p.cs⟩, ⟨b4, true, .box (p.cs.take 3)⟩, ⟨g, true, .box [encT t2]⟩]⟩) ⟨rfl, (Slots.cons h0 (.refl _) (Slots.cons h2 (.refl _) (Slots.cons h7 (.refl _) Slots.nil))), (List.Sublist.refl _)⟩ ?_
     refine awp_seq ?_
     refine awp_region ?_
     refine r_assign rfl rfl ?_
     refine awl_nil ?_
     refine x_then ?_
     refine awp_ret ?_
     exact ⟨(.inl rfl), _, [⟨g, true, .box [encT t2]⟩], (.one (by first | exact .mk rfl rfl | exact .nil rfl)), ⟨t2, _, rfl, hI.del hpx, by have := refDel_le x p; omega⟩, (by first | exact List.Sublist.refl _ | exact .cons_cons _ (.cons _ (.refl _)) | exact List.nil_sublist _ | exact .cons _ (.refl _) | exact .cons _ (.cons _ (.refl _)) | exact .cons _ (.cons _ (.cons _ (.refl _))) | exact .cons _ (.cons _ (.cons _ (.cons _ (.refl _)))) | exact .cons_cons _ (List.nil_sublist _)), (by simp)⟩)
theorem do_ok (t : TreeV) (x : List It) (hI : Idx t x) (l : List Ac) (hl : x.length + l.length ≤ 1000) (hin : ∀ a ∈ l, Inr a.k) (b5 g : Nat) (f : Bool) : AW Try.prog 27 [.sl 6 (l.map Ac.cs), .v (.pointer (some ⟨b5, 0, none⟩))] [⟨b5, f, .box [.v (.pointer (some ⟨g, 0, none⟩))]⟩] [⟨g, true, .box [encT t]⟩] (fun r n => r = .tup [] ∧ ∃ t' x', n = [⟨g, true, .box [encT t']⟩] ∧ Idx t' x' ∧ x'.length ≤ x.length + l.length) := by
 refine aw_of_awp (rs := []) (nt := 30) (so := [⟨b5, false, .box [.v (.pointer (some ⟨g, 0, none⟩))]⟩, ⟨g, true, .box [encT t]⟩]) Try.func27 rfl rfl rfl rfl rfl (fun w0 C0 hq => ?_)
 refine awp_seq ?_
 refine awp_region ?_
 refine r_move rfl rfl ?_
 refine r_lenS rfl rfl TI.sl22 rfl ?_
 refine r_move rfl rfl ?_
 refine awl_nil ?_
 refine x_then ?_
 refine awp_block ?_
 refine awp_imp (imp_perm (objs := [⟨g, true, .box [encT t]⟩, ⟨b5, false, .box [.v (.pointer (some ⟨g, 0, none⟩))]⟩]) (List.Perm.swap _ _ _)) ?_
 refine awp_loop (fun nn0 S => ∃ j : Nat, ∃ tc : TreeV, ∃ xc : List It, S = ⟨30, [(1, .a (.v (.pointer (some ⟨b5, 0, none⟩)))), (5, .a (.sl 6 (l.map Ac.cs))), (6, .a (.v (.int .i64 (((l.map Ac.cs).length : Nat))))), (7, .a (.v (.int .i64 ((j : Int)))))], [⟨g, true, .box [encT tc]⟩, ⟨b5, false, .box [.v (.pointer (some ⟨g, 0, none⟩))]⟩]⟩ ∧ nn0 = l.length - j ∧ (j ≤ l.length) ∧ (Idx tc xc) ∧ (xc.length ≤ x.length + j)) (l.length - (0)) ⟨30, [(1, .a (.v (.pointer (some ⟨b5, 0, none⟩)))), (5, .a (.sl 6 (l.map Ac.cs))), (6, .a (.v (.int .i64 (((l.map Ac.cs).length : Nat))))), (7, .a (.v (.int .i64 (((0) : Int)))))], [⟨g, true, .box [encT (t)]⟩, ⟨b5, false, .box [.v (.pointer (some ⟨g, 0, none⟩))]⟩]⟩ ⟨rfl, (Slots.cons rfl (by first | exact .refl _ | exact .nilOwn _ _ | exact .nilSl _ | exact .ownSl _ _ _  | exact SV.le.of_eq (by simp)) (Slots.cons rfl (by first | exact .refl _ | exact .nilOwn _ _ | exact .nilSl _ | exact .ownSl _ _ _  | exact SV.le.of_eq (by simp)) (Slots.cons rfl (by first | exact .refl _ | exact .nilOwn _ _ | exact .nilSl _ | exact .ownSl _ _ _  | exact SV.le.of_eq (by simp)) (Slots.cons rfl (by first | exact .refl _ | exact .nilOwn _ _ | exact .nilSl _ | exact .ownSl _ _ _  | exact SV.le.of_eq (by simp)) Slots.nil)))), (by first | exact List.Sublist.refl _ | exact .cons_cons _ (.cons _ (.refl _)) | exact List.nil_sublist _ | exact .cons _ (.refl _) | exact .cons _ (.cons _ (.refl _)) | exact .cons _ (.cons _ (.cons _ (.refl _))) | exact .cons _ (.cons _ (.cons _ (.cons _ (.refl _)))) | exact .cons_cons _ (List.nil_sublist _))⟩ ⟨0, t, x, rfl, rfl, Nat.zero_le _, hI, Nat.le_refl _⟩ ?_
 rintro nn0 _ ⟨j, tc, xc, rfl, rfl, hj, hIc, hxc⟩
 refine awp_seq ?_
 refine awp_region ?_
 refine r_cmp rfl rfl rfl rfl ?_
 refine awl_nil ?_
 refine x_then ?_
 refine awp_seq ?_
 refine awp_cond rfl (fun hc0 => ?_) (fun hc0 => ?_)
 ·
  have hltac : j < l.length := by have := of_decide_eq_true hc0; simpa using this
  obtain ⟨ac, hac⟩ := get_lt hltac
  have hip := hin ac (List.mem_of_getElem? hac)
  refine awp_skip ?_
  refine x_then ?_
  refine awp_seq ?_
  refine awp_block ?_
  refine awp_seq ?_
  refine awp_region ?_
  refine r_index rfl rfl rfl TI.sl22 TI.sz63 (by omega) (get_map hac) rfl ?_
  refine r_loadA rfl TI.agg63 TI.sz63 rfl rfl ?_
  refine r_alloc TI.zero63 rfl (fun b4 => ?_)
  refine r_store 0 rfl rfl rfl TI.sz63 rfl rfl rfl ?_
  refine awl_nil ?_
  refine x_then ?_
  refine awp_seq ?_
  refine awp_region ?_
  refine r_fieldb rfl TI.f63_0 TI.sz4 rfl ?_
  refine r_load1b 0 rfl rfl rfl TI.agg4 rfl ?_
  refine awl_nil ?_
  refine x_then ?_
  refine awp_cond rfl (fun hc1 => ?_) (fun hc1 => ?_)
  ·
   refine awp_region ?_
   refine r_load1b 2 rfl rfl rfl TI.agg60 rfl ?_
   refine r_fieldb rfl TI.f63_1 TI.sz47 rfl ?_
   refine r_fieldb rfl TI.f47_0 TI.sz44 rfl ?_
   refine r_loadAb 0 rfl rfl TI.agg44 TI.sz44 rfl rfl ?_
   refine r_fieldb rfl TI.f63_1 TI.sz47 rfl ?_
   refine r_fieldb rfl TI.f47_1 TI.sz45 rfl ?_
   refine r_load1b 0 rfl rfl rfl TI.agg45 rfl ?_
   refine r_callW hq [false, true, false] rfl rfl (.cons (.ev rfl rfl) (.cons (.ev rfl rfl) (.cons (.ev rfl rfl) .nil))) (ixDrop_ok tc xc hIc (by omega) ac.k hip g) rfl TI.en28 rfl rfl (List.nil_sublist _) rfl (fun r nobjs hr => ?_)
   obtain ⟨tq, xq, rfl, hIq, hlq⟩ := hr
   refine awl_nil ?_
   refine x_block ?_
   refine x_then ?_
   refine awp_region ?_
   refine r_ari _ rfl rfl rfl (wrap_id (by first | omega | (simp; omega))) rfl ?_
   refine r_move rfl rfl ?_
   refine awl_nil ?_
   refine x_then ?_
   refine ⟨l.length - (j + 1), ⟨30, [(1, .a (.v (.pointer (some ⟨b5, 0, none⟩)))), (5, .a (.sl 6 (l.map Ac.cs))), (6, .a (.v (.int .i64 (((l.map Ac.cs).length : Nat))))), (7, .a (.v (.int .i64 (((j + 1) : Int)))))], [⟨g, true, .box [encT (tq)]⟩, ⟨b5, false, .box [.v (.pointer (some ⟨g, 0, none⟩))]⟩]⟩, ⟨rfl, (Slots.cons rfl (by first | exact .refl _ | exact .nilOwn _ _ | exact .nilSl _ | exact .ownSl _ _ _  | exact SV.le.of_eq (by simp)) (Slots.cons rfl (by first | exact .refl _ | exact .nilOwn _ _ | exact .nilSl _ | exact .ownSl _ _ _  | exact SV.le.of_eq (by simp)) (Slots.cons rfl (by first | exact .refl _ | exact .nilOwn _ _ | exact .nilSl _ | exact .ownSl _ _ _  | exact SV.le.of_eq (by simp)) (Slots.cons rfl (by first | exact .refl _ | exact .nilOwn _ _ | exact .nilSl _ | exact .ownSl _ _ _  | exact SV.le.of_eq (by simp)) Slots.nil)))), (.cons_cons _ (.cons _ (List.Sublist.refl _)))⟩, (by omega), ⟨j + 1, tq, xq, rfl, rfl, (by omega), hIq, (by omega)⟩⟩
  ·
   refine awp_region ?_
   refine r_load1b 2 rfl rfl rfl TI.agg60 rfl ?_
   refine r_fieldb rfl TI.f63_1 TI.sz47 rfl ?_
   refine r_fieldb rfl TI.f47_0 TI.sz44 rfl ?_
   refine r_loadAb 0 rfl rfl TI.agg44 TI.sz44 rfl rfl ?_
   refine r_fieldb rfl TI.f63_1 TI.sz47 rfl ?_
   refine r_fieldb rfl TI.f47_1 TI.sz45 rfl ?_
   refine r_load1b 0 rfl rfl rfl TI.agg45 rfl ?_
   refine r_callW hq [false, true, false] rfl rfl (.cons (.ev rfl rfl) (.cons (.ev rfl rfl) (.cons (.ev rfl rfl) .nil))) (ixPut_ok tc xc hIc (by omega) ac.k hip g) rfl TI.en29 rfl rfl (List.nil_sublist _) rfl (fun r nobjs hr => ?_)
   obtain ⟨tq, xq, rfl, hIq, hlq⟩ := hr
   refine awl_nil ?_
   refine x_block ?_
   refine x_then ?_
   refine awp_region ?_
   refine r_ari _ rfl rfl rfl (wrap_id (by first | omega | (simp; omega))) rfl ?_
   refine r_move rfl rfl ?_
   refine awl_nil ?_
   refine x_then ?_
   refine ⟨l.length - (j + 1), ⟨30, [(1, .a (.v (.pointer (some ⟨b5, 0, none⟩)))), (5, .a (.sl 6 (l.map Ac.cs))), (6, .a (.v (.int .i64 (((l.map Ac.cs).length : Nat))))), (7, .a (.v (.int .i64 (((j + 1) : Int)))))], [⟨g, true, .box [encT (tq)]⟩, ⟨b5, false, .box [.v (.pointer (some ⟨g, 0, none⟩))]⟩]⟩, ⟨rfl, (Slots.cons rfl (by first | exact .refl _ | exact .nilOwn _ _ | exact .nilSl _ | exact .ownSl _ _ _  | exact SV.le.of_eq (by simp)) (Slots.cons rfl (by first | exact .refl _ | exact .nilOwn _ _ | exact .nilSl _ | exact .ownSl _ _ _  | exact SV.le.of_eq (by simp)) (Slots.cons rfl (by first | exact .refl _ | exact .nilOwn _ _ | exact .nilSl _ | exact .ownSl _ _ _  | exact SV.le.of_eq (by simp)) (Slots.cons rfl (by first | exact .refl _ | exact .nilOwn _ _ | exact .nilSl _ | exact .ownSl _ _ _  | exact SV.le.of_eq (by simp)) Slots.nil)))), (.cons_cons _ (.cons _ (List.Sublist.refl _)))⟩, (by omega), ⟨j + 1, tq, xq, rfl, rfl, (by omega), hIq, (by omega)⟩⟩
 ·
  have hge : l.length ≤ j := by have := of_decide_eq_false hc0; simp at this; omega
  refine awp_exit ?_
  refine x_thenE ?_
  refine x_thenE ?_
  refine x_blockE ?_
  exact ⟨(.inr rfl), _, [⟨g, true, .box [encT tc]⟩], .none, ⟨rfl, tc, xc, rfl, hIc, by omega⟩, (.cons_cons _ (List.nil_sublist _)), (by simp)⟩
end Go.Proofs.Ytljgdbgcleibjaa.A
namespace Go.Proofs.Ytljgdbgcleibjaa.A
open Go Go.RowKit
set_option linter.unusedVariables false
set_option linter.unusedSimpArgs false
set_option maxRecDepth 100000
theorem TI.en53 : entersT Try.prog 53 := enters_of Try.func53 (by kernel_rfl) (by kernel_rfl)
theorem TI.en46 : entersT Try.prog 46 := enters_of Try.func46 (by kernel_rfl) (by kernel_rfl)
theorem TI.agg125 : aggT Try.prog 125 = some false := by kernel_rfl
theorem TI.en66 : entersT Try.prog 66 := enters_of Try.func66 (by kernel_rfl) (by kernel_rfl)
theorem TI.agg126 : aggT Try.prog 126 = some false := by kernel_rfl
theorem TI.f82_2 : fieldT Try.prog 82 2 = some (2, 80) := by kernel_rfl
theorem TI.sz80 : szT Try.prog 80 = some 1 := by kernel_rfl
theorem TI.agg80 : aggT Try.prog 80 = some false := by kernel_rfl
theorem TI.sl80 : sliceT Try.prog 80 = some 36 := by kernel_rfl
theorem TI.sz36 : szT Try.prog 36 = some 1 := by kernel_rfl
theorem TI.agg36 : aggT Try.prog 36 = some false := by kernel_rfl
theorem TI.zero126 : ZeroT Try.prog 126 [.v .nilFunc] := ⟨[.nilFunc], by kernel_rfl, (LeCells.refl _)⟩
theorem TI.sz126 : szT Try.prog 126 = some 1 := by kernel_rfl
theorem TI.en18 : entersT Try.prog 18 := enters_of Try.func18 (by kernel_rfl) (by kernel_rfl)
theorem TI.en30 : entersT Try.prog 30 := enters_of Try.func30 (by kernel_rfl) (by kernel_rfl)
theorem TI.zero24 : ZeroT Try.prog 24 [.v (.pointer none)] := ⟨[(.pointer none)], by kernel_rfl, (LeCells.refl _)⟩
theorem TI.en65 : entersT Try.prog 65 := enters_of Try.func65 (by kernel_rfl) (by kernel_rfl)
theorem TI.pl44 : placesT Try.prog 44 = some [(0, 1), (1, 1), (2, 1)] := by kernel_rfl
theorem TI.zero44 : ZeroT Try.prog 44 [.v (.int .i64 0), .v (.int .i64 0), .v (.int .i64 0)] := ⟨[(.int .i64 0), (.int .i64 0), (.int .i64 0)], by kernel_rfl, (LeCells.refl _)⟩
theorem TI.en49 : entersT Try.prog 49 := enters_of Try.func49 (by kernel_rfl) (by kernel_rfl)
theorem TI.agg103 : aggT Try.prog 103 = some false := by kernel_rfl
theorem rgw_leaf (to frm : Sp) (l0 b5 : Nat) (Cs : CS) (J D : List (List AV) → List OE → Prop) (L : List It) (hY : ∀ pre x wo, J pre wo → rgA L pre x → YCs Cs Try.prog l0 x wo (fun bb n => if bb = true then J (pre ++ [x]) n else D (pre ++ [x]) n)) (c : Nat) (its : List It) (h4 : its.length ≤ 4) (hin : ∀ z ∈ its, ¬ to.lt z.1 ∧ ¬ z.1.lt frm) (f5 : Bool) (pre : List (List AV)) (wo : List OE) (hp : pre = (L.take pre.length).map zA) (R : List It) (hR : L.drop pre.length = its ++ R) (hJ : J pre wo) : AWC Cs Try.prog 66 [ndA c (its.map fun p : Sp × Int => p.1) (its.map fun p : Sp × Int => p.2) [], .cp to.cs, .cp frm.cs, .cp [.v (.func (.yield l0) #[] #[])], .v (.pointer (some ⟨b5, 0, none⟩))] [⟨b5, f5, .box [.fn 66 [.cp to.cs, .cp frm.cs, .cp [.v (.func (.yield l0) #[] #[])], .v (.pointer (some ⟨b5, 0, none⟩))]]⟩] wo (fun r nb => ∃ wo', nb = Tr wo' ∧ ((r = boolA true ∧ J (pre ++ (its).map zA) wo') ∨ (r = boolA false ∧ ∃ xs, D xs wo'))) := by
 refine awc_of_awpG Cs (so := (⟨b5, false, .box [.fn 66 [.cp to.cs, .cp frm.cs, .cp [.v (.func (.yield l0) #[] #[])], .v (.pointer (some ⟨b5, 0, none⟩))]]⟩ :: Tr wo)) (nt := 77) (fun S r => Result1 S [6] r) Try.func66 rfl rfl rfl rfl (result1_run rfl) (fun w0 C0 hq hcs => ?_)
 unfold ndA
 refine awp_seq ?_
 refine awp_region ?_
 refine r_assign rfl rfl ?_
 refine awl_nil ?_
 refine x_then ?_
 refine awp_scope ?_
 refine awp_seq ?_
 refine awp_label ?_
 refine x_then ?_
 refine awp_seq ?_
 refine awp_seq ?_
 refine awp_region ?_
 refine r_move rfl rfl ?_
 refine r_nilCheck rfl (by first | exact .pt _ _ | exact .v _ | exact .cp _) rfl ?_
 refine r_fieldpt rfl TI.f82_0 TI.sz78 rfl ?_
 refine r_load1 rfl TI.agg78 rfl ?_
 refine r_lenS rfl rfl TI.sl78 rfl ?_
 refine r_move rfl rfl ?_
 refine awl_nil ?_
 refine x_then ?_
 refine awp_block ?_
 refine awp_loop (fun nn0 S => ∃ i : Nat, ∃ wv : List OE, S = ⟨77, [(0, .a (ndA c (its.map fun p : Sp × Int => p.1) (its.map fun p : Sp × Int => p.2) [])), (1, .a (.cp to.cs)), (2, .a (.cp frm.cs)), (3, .a (.cp [.v (.func (.yield l0) #[] #[])])), (4, .a (.v (.pointer (some ⟨b5, 0, none⟩)))), (12, .a (.sl 4 ((its.map fun p : Sp × Int => p.1).map Sp.cs))), (13, .a (.v (.int .i64 ((((its.map fun p : Sp × Int => p.1).map Sp.cs).length : Nat))))), (14, .a (.v (.int .i64 ((i : Int)))))], ⟨b5, false, .box [.fn 66 [.cp to.cs, .cp frm.cs, .cp [.v (.func (.yield l0) #[] #[])], .v (.pointer (some ⟨b5, 0, none⟩))]]⟩ :: Tr wv⟩ ∧ nn0 = its.length - i ∧ (i ≤ its.length) ∧ (J (pre ++ (its.take i).map zA) wv)) (its.length - (0)) ⟨77, [(0, .a (ndA c (its.map fun p : Sp × Int => p.1) (its.map fun p : Sp × Int => p.2) [])), (1, .a (.cp to.cs)), (2, .a (.cp frm.cs)), (3, .a (.cp [.v (.func (.yield l0) #[] #[])])), (4, .a (.v (.pointer (some ⟨b5, 0, none⟩)))), (12, .a (.sl 4 ((its.map fun p : Sp × Int => p.1).map Sp.cs))), (13, .a (.v (.int .i64 ((((its.map fun p : Sp × Int => p.1).map Sp.cs).length : Nat))))), (14, .a (.v (.int .i64 (((0) : Int)))))], ⟨b5, false, .box [.fn 66 [.cp to.cs, .cp frm.cs, .cp [.v (.func (.yield l0) #[] #[])], .v (.pointer (some ⟨b5, 0, none⟩))]]⟩ :: Tr (wo)⟩ ⟨rfl, (Slots.cons rfl (by first | exact .refl _ | exact .nilOwn _ _ | exact .nilSl _ | exact .ownSl _ _ _  | exact SV.le.ownEq (by unfold ndA; rfl) | exact SV.le.of_eq (by unfold ndA; rfl)) (Slots.cons rfl (by first | exact .refl _ | exact .nilOwn _ _ | exact .nilSl _ | exact .ownSl _ _ _  | exact SV.le.ownEq (by unfold ndA; rfl) | exact SV.le.of_eq (by unfold ndA; rfl)) (Slots.cons rfl (by first | exact .refl _ | exact .nilOwn _ _ | exact .nilSl _ | exact .ownSl _ _ _  | exact SV.le.ownEq (by unfold ndA; rfl) | exact SV.le.of_eq (by unfold ndA; rfl)) (Slots.cons rfl (by first | exact .refl _ | exact .nilOwn _ _ | exact .nilSl _ | exact .ownSl _ _ _  | exact SV.le.ownEq (by unfold ndA; rfl) | exact SV.le.of_eq (by unfold ndA; rfl)) (Slots.cons rfl (by first | exact .refl _ | exact .nilOwn _ _ | exact .nilSl _ | exact .ownSl _ _ _  | exact SV.le.ownEq (by unfold ndA; rfl) | exact SV.le.of_eq (by unfold ndA; rfl)) (Slots.cons rfl (by first | exact .refl _ | exact .nilOwn _ _ | exact .nilSl _ | exact .ownSl _ _ _  | exact SV.le.ownEq (by unfold ndA; rfl) | exact SV.le.of_eq (by unfold ndA; rfl)) (Slots.cons rfl (by first | exact .refl _ | exact .nilOwn _ _ | exact .nilSl _ | exact .ownSl _ _ _  | exact SV.le.ownEq (by unfold ndA; rfl) | exact SV.le.of_eq (by unfold ndA; rfl)) (Slots.cons rfl (by first | exact .refl _ | exact .nilOwn _ _ | exact .nilSl _ | exact .ownSl _ _ _  | exact SV.le.ownEq (by unfold ndA; rfl) | exact SV.le.of_eq (by unfold ndA; rfl)) Slots.nil)))))))), (List.Sublist.refl _)⟩ ⟨0, wo, rfl, rfl, Nat.zero_le _, (by rw [List.take_zero, List.map_nil, List.append_nil]; exact hJ)⟩ ?_
 rintro nn0 _ ⟨i, wv, rfl, rfl, hi, hJi⟩
 refine awp_seq ?_
 refine awp_region ?_
 refine r_cmp rfl rfl rfl rfl ?_
 refine awl_nil ?_
 refine x_then ?_
 refine awp_seq ?_
 refine awp_cond rfl (fun hc0 => ?_) (fun hc0 => ?_)
 ·
  have hltx : i < its.length := by have := of_decide_eq_true hc0; simpa using this
  obtain ⟨x, hx⟩ := get_lt hltx
  refine awp_skip ?_
  refine x_then ?_
  refine awp_seq ?_
  refine awp_block ?_
  refine awp_seq ?_
  refine awp_region ?_
  refine r_move rfl rfl ?_
  refine r_index rfl rfl rfl TI.sl78 TI.sz47 (by omega) (get_map (get_map hx)) rfl ?_
  refine r_loadA rfl TI.agg47 TI.sz47 rfl rfl ?_
  refine r_alloc TI.zero47 rfl (fun b8 => ?_)
  refine r_assign rfl rfl ?_
  refine r_store 0 rfl rfl rfl TI.sz47 rfl rfl rfl ?_
  refine awl_nil ?_
  refine x_then ?_
  refine awp_block ?_
  refine awp_seq ?_
  refine awp_region ?_
  refine r_loadA rfl TI.agg47 TI.sz47 rfl rfl ?_
  refine r_loadAb 0 rfl rfl TI.agg47 TI.sz47 rfl rfl ?_
  refine r_call0 hq rfl rfl (.cons (.ev rfl rfl) (.cons (.ev rfl rfl) .nil)) (before_ok to x.1) rfl TI.en53 rfl (fun r hr => ?_)
  obtain rfl := hr
  refine r_assign rfl rfl ?_
  refine awl_nil ?_
  refine x_then ?_
  refine awp_cond rfl (fun hc1 => ?_) (fun hc1 => ?_)
  ·
   exfalso; exact absurd (of_decide_eq_true hc1) (hin x (List.mem_of_getElem? hx)).1
  ·
   refine awp_seq ?_
   refine awp_region ?_
   refine r_move rfl rfl ?_
   refine r_call0 hq rfl rfl (.cons (.ev rfl rfl) .nil) (leaf_ok c (its.map fun p : Sp × Int => p.1) (its.map fun p : Sp × Int => p.2) []) rfl TI.en46 rfl (fun r hr => ?_)
   obtain rfl := hr
   refine r_assign rfl rfl ?_
   refine awl_nil ?_
   refine x_then ?_
   refine awp_cond rfl (fun hc2 => ?_) (fun hc2 => ?_)
   ·
    skip
    refine awp_seq ?_
    refine awp_drawSI [26, 27, 28, 29, 30, 31, 32, 33, 34, 35, 36, 37, 38, 39] [_, _, _, _, _, _, _, _, _, _, _, _, _, _] [] [] TI.mixed rfl rfl rfl ⟨⟨⟨⟨⟨⟨⟨⟨⟨⟨⟨⟨⟨⟨trivial
     , ⟨_, rfl, fun sl hd hr ho => by
       refine r_loadAb 0 (hr 8 _ rfl rfl rfl) rfl TI.agg47 TI.sz47 rfl rfl ?_
       exact awl_nil ⟨rfl, post_put⟩⟩⟩
     , ⟨_, rfl, fun sl hd hr ho => by
       refine r_loadA (hr 2 _ rfl rfl rfl) TI.agg47 TI.sz47 rfl rfl ?_
       exact awl_nil ⟨rfl, post_put⟩⟩⟩
     , ⟨_, rfl, fun sl hd hr ho => by
       refine r_call0 hq rfl rfl (.cons (.ev (hd 0 _ rfl rfl rfl) rfl) (.cons (.ev (hd 1 _ rfl rfl rfl) rfl) .nil)) (before_ok x.1 frm) rfl TI.en53 rfl (fun r hr => ?_)
       obtain rfl := hr
       exact awl_nil ⟨rfl, post_put⟩⟩⟩
     , ⟨_, rfl, fun sl hd hr ho => by
       refine r_not (hd 2 _ rfl rfl rfl) rfl ?_
       exact awl_nil ⟨rfl, post_put⟩⟩⟩
     , ⟨_, rfl, fun sl hd hr ho => by
       refine r_move (hd 3 _ rfl rfl rfl) rfl ?_
       exact awl_nil ⟨rfl, post_put⟩⟩⟩
     , ⟨_, rfl, fun sl hd hr ho => by
       refine g_run rfl (hd 4 _ rfl rfl rfl) (by rw [decide_eq_false (hin x (List.mem_of_getElem? hx)).2]; rfl) ?_
       refine r_load1 (hr 3 _ rfl rfl rfl) TI.agg125 rfl ?_
       exact awl_nil ⟨rfl, post_put⟩⟩⟩
     , ⟨_, rfl, fun sl hd hr ho => by
       refine g_run rfl (hd 4 _ rfl rfl rfl) (by rw [decide_eq_false (hin x (List.mem_of_getElem? hx)).2]; rfl) ?_
       refine r_loadAb 0 (hr 8 _ rfl rfl rfl) rfl TI.agg47 TI.sz47 rfl rfl ?_
       exact awl_nil ⟨rfl, post_put⟩⟩⟩
     , ⟨_, rfl, fun sl hd hr ho => by
       refine g_run rfl (hd 4 _ rfl rfl rfl) (by rw [decide_eq_false (hin x (List.mem_of_getElem? hx)).2]; rfl) ?_
       refine r_move (hr 0 _ rfl rfl rfl) rfl ?_
       exact awl_nil ⟨rfl, post_put⟩⟩⟩
     , ⟨_, rfl, fun sl hd hr ho => by
       refine g_run rfl (hd 4 _ rfl rfl rfl) (by rw [decide_eq_false (hin x (List.mem_of_getElem? hx)).2]; rfl) ?_
       refine r_nilCheck (hd 7 _ rfl rfl rfl) (by first | exact .pt _ _ | exact .v _ | exact .cp _) rfl ?_
       exact awl_nil ⟨rfl, post_put⟩⟩⟩
     , ⟨_, rfl, fun sl hd hr ho => by
       refine g_run rfl (hd 4 _ rfl rfl rfl) (by rw [decide_eq_false (hin x (List.mem_of_getElem? hx)).2]; rfl) ?_
       refine r_fieldpt (hd 8 _ rfl rfl rfl) TI.f82_1 TI.sz79 rfl ?_
       exact awl_nil ⟨rfl, post_put⟩⟩⟩
     , ⟨_, rfl, fun sl hd hr ho => by
       refine g_run rfl (hd 4 _ rfl rfl rfl) (by rw [decide_eq_false (hin x (List.mem_of_getElem? hx)).2]; rfl) ?_
       refine r_load1 (hd 9 _ rfl rfl rfl) TI.agg79 rfl ?_
       exact awl_nil ⟨rfl, post_put⟩⟩⟩
     , ⟨_, rfl, fun sl hd hr ho => by
       refine g_run rfl (hd 4 _ rfl rfl rfl) (by rw [decide_eq_false (hin x (List.mem_of_getElem? hx)).2]; rfl) ?_
       refine r_move (hr 7 _ rfl rfl rfl) rfl ?_
       exact awl_nil ⟨rfl, post_put⟩⟩⟩
     , ⟨_, rfl, fun sl hd hr ho => by
       refine g_run rfl (hd 4 _ rfl rfl rfl) (by rw [decide_eq_false (hin x (List.mem_of_getElem? hx)).2]; rfl) ?_
       refine r_index (hd 10 _ rfl rfl rfl) rfl (hd 11 _ rfl rfl rfl) TI.sl79 TI.sz45 (by omega) (get_map (get_map hx)) rfl ?_
       exact awl_nil ⟨rfl, post_put⟩⟩⟩
     , ⟨_, rfl, fun sl hd hr ho => by
       refine g_run rfl (hd 4 _ rfl rfl rfl) (by rw [decide_eq_false (hin x (List.mem_of_getElem? hx)).2]; rfl) ?_
       refine r_load1 (hd 12 _ rfl rfl rfl) TI.agg45 rfl ?_
       exact awl_nil ⟨rfl, post_put⟩⟩⟩
     (by rfl) (by rfl) ?_
    refine gi_run rfl rfl (by rw [decide_eq_false (hin x (List.mem_of_getElem? hx)).2]; rfl) ?_
    refine r_yieldSI hq (un := [⟨b8, true, .box x.1.cs⟩, ⟨b5, false, .box [.fn 66 [.cp to.cs, .cp frm.cs, .cp [.v (.func (.yield l0) #[] #[])], .v (.pointer (some ⟨b5, 0, none⟩))]]⟩]) (fun n => [⟨b8, true, .box x.1.cs⟩, ⟨b5, false, .box [.fn 66 [.cp to.cs, .cp frm.cs, .cp [.v (.func (.yield l0) #[] #[])], .v (.pointer (some ⟨b5, 0, none⟩))]]⟩] ++ Tr n) rfl rfl (.cons (.ev rfl rfl) (.cons (.ev rfl rfl) .nil)) Cs hcs (hY _ (zA x) wv hJi (rgA_at hp hR hx)) List.perm_append_comm (fun n => List.perm_append_comm) rfl (fun bb nobjs hJ' => ?_)
    refine gi_run rfl rfl (by rw [decide_eq_false (hin x (List.mem_of_getElem? hx)).2]; rfl) ?_
    refine awli_op (fun c h => (by cases h)) ?_
    refine r_not rfl rfl ?_
    refine awl_nil ⟨rfl, ?_⟩
    refine awli_op (fun c h => (by cases h)) ?_
    refine r_pickT rfl (by rw [decide_eq_false (hin x (List.mem_of_getElem? hx)).2]; rfl) rfl rfl ?_
    refine awl_nil ⟨rfl, ?_⟩
    refine awli_nil ?_
    refine x_then ?_
    refine awp_cond rfl (fun hc3 => ?_) (fun hc3 => ?_)
    ·
     have hbb : bb = false := by simpa using hc3
     subst hbb
     have hD2 : D _ _ := hJ'
     refine awp_seq ?_
     refine awp_region ?_
     refine r_assign rfl rfl ?_
     refine awl_nil ?_
     refine x_then ?_
     refine awp_ret ?_
     refine x_blockR ?_
     refine x_blockR ?_
     refine x_thenR ?_
     refine x_thenR ?_
     refine x_blockR ?_
     refine x_thenR ?_
     refine x_scopeR ?_
     exact ⟨(.inl rfl), _, Tr nobjs, (.one (by first | exact .mk rfl rfl | exact .nil rfl)), ⟨nobjs, rfl, .inr ⟨rfl, _, hD2⟩⟩, (.cons _ (.cons _ (List.Sublist.refl _))), tr_rwS⟩
    ·
     have hbb : bb = true := by simpa using hc3
     subst hbb
     have hJ2 : J _ _ := hJ'
     refine awp_skip ?_
     refine x_block ?_
     refine x_block ?_
     refine x_then ?_
     refine awp_region ?_
     refine r_ari _ rfl rfl rfl (wrap_id (by first | omega | (simp; omega))) rfl ?_
     refine r_move rfl rfl ?_
     refine awl_nil ?_
     refine x_then ?_
     refine ⟨its.length - (i + 1), ⟨77, [(0, .a (ndA c (its.map fun p : Sp × Int => p.1) (its.map fun p : Sp × Int => p.2) [])), (1, .a (.cp to.cs)), (2, .a (.cp frm.cs)), (3, .a (.cp [.v (.func (.yield l0) #[] #[])])), (4, .a (.v (.pointer (some ⟨b5, 0, none⟩)))), (12, .a (.sl 4 ((its.map fun p : Sp × Int => p.1).map Sp.cs))), (13, .a (.v (.int .i64 ((((its.map fun p : Sp × Int => p.1).map Sp.cs).length : Nat))))), (14, .a (.v (.int .i64 (((i + 1) : Int)))))], ⟨b5, false, .box [.fn 66 [.cp to.cs, .cp frm.cs, .cp [.v (.func (.yield l0) #[] #[])], .v (.pointer (some ⟨b5, 0, none⟩))]]⟩ :: Tr (nobjs)⟩, ⟨rfl, (Slots.cons rfl (by first | exact .refl _ | exact .nilOwn _ _ | exact .nilSl _ | exact .ownSl _ _ _  | exact SV.le.of_eq (by simp)) (Slots.cons rfl (by first | exact .refl _ | exact .nilOwn _ _ | exact .nilSl _ | exact .ownSl _ _ _  | exact SV.le.of_eq (by simp)) (Slots.cons rfl (by first | exact .refl _ | exact .nilOwn _ _ | exact .nilSl _ | exact .ownSl _ _ _  | exact SV.le.of_eq (by simp)) (Slots.cons rfl (by first | exact .refl _ | exact .nilOwn _ _ | exact .nilSl _ | exact .ownSl _ _ _  | exact SV.le.of_eq (by simp)) (Slots.cons rfl (by first | exact .refl _ | exact .nilOwn _ _ | exact .nilSl _ | exact .ownSl _ _ _  | exact SV.le.of_eq (by simp)) (Slots.cons rfl (by first | exact .refl _ | exact .nilOwn _ _ | exact .nilSl _ | exact .ownSl _ _ _  | exact SV.le.of_eq (by simp)) (Slots.cons rfl (by first | exact .refl _ | exact .nilOwn _ _ | exact .nilSl _ | exact .ownSl _ _ _  | exact SV.le.of_eq (by simp)) (Slots.cons rfl (by first | exact .refl _ | exact .nilOwn _ _ | exact .nilSl _ | exact .ownSl _ _ _  | exact SV.le.of_eq (by simp)) Slots.nil)))))))), (.cons _ (List.Sublist.refl _))⟩, (by omega), ⟨i + 1, nobjs, rfl, rfl, (by omega), (by rw [← rg_step hx]; exact hJ2)⟩⟩
   ·
    exfalso; cases hc2
 ·
  have hge : its.length ≤ i := by have := of_decide_eq_false hc0; simp at this; omega
  obtain rfl : i = its.length := by omega
  rw [List.take_length] at hJi
  refine awp_exit ?_
  refine x_thenE ?_
  refine x_thenE ?_
  refine x_blockE ?_
  refine x_then ?_
  refine awp_seq ?_
  refine awp_region ?_
  refine r_assign rfl rfl ?_
  refine awl_nil ?_
  refine x_then ?_
  refine awp_ret ?_
  refine x_scopeR ?_
  exact ⟨(.inl rfl), _, Tr wv, (.one (by first | exact .mk rfl rfl | exact .nil rfl)), ⟨wv, rfl, .inl ⟨rfl, hJi⟩⟩, (.cons _ (List.Sublist.refl _)), tr_rwS⟩
theorem rgw_inner (to frm : Sp) (l0 b5 : Nat) (Cs : CS) (J D : List (List AV) → List OE → Prop) (L : List It) (hY : ∀ pre x wo, J pre wo → rgA L pre x → YCs Cs Try.prog l0 x wo (fun bb n => if bb = true then J (pre ++ [x]) n else D (pre ++ [x]) n)) (h : Nat) (ih : ∀ (n : Nd h), wfC 1 h n.2 → Srt (flat h n.2) → (∀ z ∈ flat h n.2, ¬ to.lt z.1 ∧ ¬ z.1.lt frm) → ∀ (f5 : Bool) (pre : List (List AV)) (wo : List OE) (hp : pre = (L.take pre.length).map zA) (R : List It) (hR : L.drop pre.length = flat h n.2 ++ R) (hJ : J pre wo), AWC Cs Try.prog 66 [enc h n, .cp to.cs, .cp frm.cs, .cp [.v (.func (.yield l0) #[] #[])], .v (.pointer (some ⟨b5, 0, none⟩))] [⟨b5, f5, .box [.fn 66 [.cp to.cs, .cp frm.cs, .cp [.v (.func (.yield l0) #[] #[])], .v (.pointer (some ⟨b5, 0, none⟩))]]⟩] wo (fun r nb => ∃ wo', nb = Tr wo' ∧ ((r = boolA true ∧ J (pre ++ (flat h n.2).map zA) wo') ∨ (r = boolA false ∧ ∃ xs, D xs wo')))) (c : Nat) (l : List (Nd h)) (hl0 : 0 < l.length) (hl4 : l.length ≤ 4) (hw : ∀ n ∈ l, wfC 1 h n.2) (hs : Srt (flatK l)) (hin : ∀ z ∈ flatK l, ¬ to.lt z.1 ∧ ¬ z.1.lt frm) (f5 : Bool) (pre : List (List AV)) (wo : List OE) (hp : pre = (L.take pre.length).map zA) (R : List It) (hR : L.drop pre.length = flatK l ++ R) (hJ : J pre wo) : AWC Cs Try.prog 66 [ndA c (kksOf h l) [] (l.map (enc h)), .cp to.cs, .cp frm.cs, .cp [.v (.func (.yield l0) #[] #[])], .v (.pointer (some ⟨b5, 0, none⟩))] [⟨b5, f5, .box [.fn 66 [.cp to.cs, .cp frm.cs, .cp [.v (.func (.yield l0) #[] #[])], .v (.pointer (some ⟨b5, 0, none⟩))]]⟩] wo (fun r nb => ∃ wo', nb = Tr wo' ∧ ((r = boolA true ∧ J (pre ++ (flatK l).map zA) wo') ∨ (r = boolA false ∧ ∃ xs, D xs wo'))) := by
 refine awc_of_awpG Cs (so := (⟨b5, false, .box [.fn 66 [.cp to.cs, .cp frm.cs, .cp [.v (.func (.yield l0) #[] #[])], .v (.pointer (some ⟨b5, 0, none⟩))]]⟩ :: Tr wo)) (nt := 77) (fun S r => Result1 S [6] r) Try.func66 rfl rfl rfl rfl (result1_run rfl) (fun w0 C0 hq hcs => ?_)
 unfold ndA
 refine awp_seq ?_
 refine awp_region ?_
 refine r_assign rfl rfl ?_
 refine awl_nil ?_
 refine x_then ?_
 refine awp_scope ?_
 refine awp_seq ?_
 refine awp_label ?_
 refine x_then ?_
 refine awp_seq ?_
 refine awp_seq ?_
 refine awp_region ?_
 refine r_move rfl rfl ?_
 refine r_nilCheck rfl (by first | exact .pt _ _ | exact .v _ | exact .cp _) rfl ?_
 refine r_fieldpt rfl TI.f82_0 TI.sz78 rfl ?_
 refine r_load1 rfl TI.agg78 rfl ?_
 refine r_lenS rfl rfl TI.sl78 rfl ?_
 refine r_move rfl rfl ?_
 refine awl_nil ?_
 refine x_then ?_
 refine awp_block ?_
 refine awp_loop (fun nn0 S => ∃ i : Nat, ∃ wv : List OE, S = ⟨77, [(0, .a (ndA c (kksOf h l) [] (l.map (enc h)))), (1, .a (.cp to.cs)), (2, .a (.cp frm.cs)), (3, .a (.cp [.v (.func (.yield l0) #[] #[])])), (4, .a (.v (.pointer (some ⟨b5, 0, none⟩)))), (12, .a (.sl 4 ((kksOf h l).map Sp.cs))), (13, .a (.v (.int .i64 ((((kksOf h l).map Sp.cs).length : Nat))))), (14, .a (.v (.int .i64 ((i : Int)))))], ⟨b5, false, .box [.fn 66 [.cp to.cs, .cp frm.cs, .cp [.v (.func (.yield l0) #[] #[])], .v (.pointer (some ⟨b5, 0, none⟩))]]⟩ :: Tr wv⟩ ∧ nn0 = l.length - i ∧ (i ≤ l.length) ∧ (J (pre ++ (flatK (l.take i)).map zA) wv)) (l.length - (0)) ⟨77, [(0, .a (ndA c (kksOf h l) [] (l.map (enc h)))), (1, .a (.cp to.cs)), (2, .a (.cp frm.cs)), (3, .a (.cp [.v (.func (.yield l0) #[] #[])])), (4, .a (.v (.pointer (some ⟨b5, 0, none⟩)))), (12, .a (.sl 4 ((kksOf h l).map Sp.cs))), (13, .a (.v (.int .i64 ((((kksOf h l).map Sp.cs).length : Nat))))), (14, .a (.v (.int .i64 (((0) : Int)))))], ⟨b5, false, .box [.fn 66 [.cp to.cs, .cp frm.cs, .cp [.v (.func (.yield l0) #[] #[])], .v (.pointer (some ⟨b5, 0, none⟩))]]⟩ :: Tr (wo)⟩ ⟨rfl, (Slots.cons rfl (by first | exact .refl _ | exact .nilOwn _ _ | exact .nilSl _ | exact .ownSl _ _ _  | exact SV.le.ownEq (by unfold ndA; rfl) | exact SV.le.of_eq (by unfold ndA; rfl)) (Slots.cons rfl (by first | exact .refl _ | exact .nilOwn _ _ | exact .nilSl _ | exact .ownSl _ _ _  | exact SV.le.ownEq (by unfold ndA; rfl) | exact SV.le.of_eq (by unfold ndA; rfl)) (Slots.cons rfl (by first | exact .refl _ | exact .nilOwn _ _ | exact .nilSl _ | exact .ownSl _ _ _  | exact SV.le.ownEq (by unfold ndA; rfl) | exact SV.le.of_eq (by unfold ndA; rfl)) (Slots.cons rfl (by first | exact .refl _ | exact .nilOwn _ _ | exact .nilSl _ | exact .ownSl _ _ _  | exact SV.le.ownEq (by unfold ndA; rfl) | exact SV.le.of_eq (by unfold ndA; rfl)) (Slots.cons rfl (by first | exact .refl _ | exact .nilOwn _ _ | exact .nilSl _ | exact .ownSl _ _ _  | exact SV.le.ownEq (by unfold ndA; rfl) | exact SV.le.of_eq (by unfold ndA; rfl)) (Slots.cons rfl (by first | exact .refl _ | exact .nilOwn _ _ | exact .nilSl _ | exact .ownSl _ _ _  | exact SV.le.ownEq (by unfold ndA; rfl) | exact SV.le.of_eq (by unfold ndA; rfl)) (Slots.cons rfl (by first | exact .refl _ | exact .nilOwn _ _ | exact .nilSl _ | exact .ownSl _ _ _  | exact SV.le.ownEq (by unfold ndA; rfl) | exact SV.le.of_eq (by unfold ndA; rfl)) (Slots.cons rfl (by first | exact .refl _ | exact .nilOwn _ _ | exact .nilSl _ | exact .ownSl _ _ _  | exact SV.le.ownEq (by unfold ndA; rfl) | exact SV.le.of_eq (by unfold ndA; rfl)) Slots.nil)))))))), (List.Sublist.refl _)⟩ ⟨0, wo, rfl, rfl, Nat.zero_le _, (by rw [List.take_zero]; show J (pre ++ List.map zA (flatK [])) wo; rw [show flatK ([] : List (Nd h)) = [] from rfl, List.map_nil, List.append_nil]; exact hJ)⟩ ?_
 rintro nn0 _ ⟨i, wv, rfl, rfl, hi, hJi⟩
 refine awp_seq ?_
 refine awp_region ?_
 refine r_cmp rfl rfl rfl rfl ?_
 refine awl_nil ?_
 refine x_then ?_
 refine awp_seq ?_
 refine awp_cond rfl (fun hc0 => ?_) (fun hc0 => ?_)
 ·
  have hlt : i < l.length := by have := of_decide_eq_true hc0; rw [List.length_map, kksOf_len] at this; omega
  obtain ⟨kid, hkid⟩ := get_lt hlt
  obtain ⟨x, hxf, hx⟩ := kk_key hw hkid
  have hsk : Srt (flat h kid.2) := by rw [flatK_split hkid] at hs; exact srt_mid hs
  obtain ⟨hp2, hR2⟩ := rg_seg (A := flatK (l.take i)) (R := flat h kid.2 ++ (flatK (l.drop (i + 1)) ++ R)) hp (by rw [hR, flatK_split hkid]; simp only [List.append_assoc])
  refine awp_skip ?_
  refine x_then ?_
  refine awp_seq ?_
  refine awp_block ?_
  refine awp_seq ?_
  refine awp_region ?_
  refine r_move rfl rfl ?_
  refine r_index rfl rfl rfl TI.sl78 TI.sz47 (by omega) (get_map hx) rfl ?_
  refine r_loadA rfl TI.agg47 TI.sz47 rfl rfl ?_
  refine r_alloc TI.zero47 rfl (fun b8 => ?_)
  refine r_assign rfl rfl ?_
  refine r_store 0 rfl rfl rfl TI.sz47 rfl rfl rfl ?_
  refine awl_nil ?_
  refine x_then ?_
  refine awp_block ?_
  refine awp_seq ?_
  refine awp_region ?_
  refine r_loadA rfl TI.agg47 TI.sz47 rfl rfl ?_
  refine r_loadAb 0 rfl rfl TI.agg47 TI.sz47 rfl rfl ?_
  refine r_call0 hq rfl rfl (.cons (.ev rfl rfl) (.cons (.ev rfl rfl) .nil)) (before_ok to x.1) rfl TI.en53 rfl (fun r hr => ?_)
  obtain rfl := hr
  refine r_assign rfl rfl ?_
  refine awl_nil ?_
  refine x_then ?_
  refine awp_cond rfl (fun hc1 => ?_) (fun hc1 => ?_)
  ·
   exfalso; exact absurd (of_decide_eq_true hc1) (hin x (kid_flat hkid hxf)).1
  ·
   refine awp_seq ?_
   refine awp_region ?_
   refine r_move rfl rfl ?_
   refine r_call0 hq rfl rfl (.cons (.ev rfl rfl) .nil) (leaf_ok c (kksOf h l) [] (l.map (enc h))) rfl TI.en46 rfl (fun r hr => ?_)
   obtain rfl := hr
   refine r_assign rfl rfl ?_
   refine awl_nil ?_
   refine x_then ?_
   refine awp_cond rfl (fun hc2 => ?_) (fun hc2 => ?_)
   ·
    exfalso; have h1 : (l.map (enc h)).isEmpty = true := hc2
    cases l with
    | nil => exact absurd hl0 (Nat.lt_irrefl 0)
    | cons a r => cases h1
   ·
    refine awp_seq ?_
    rcases Bool.eq_false_or_eq_true (decide ((i : Int) + 1 < ((((kksOf h l).map Sp.cs).length : Nat) : Int))) with hg52 | hg52
    ·
     have hlt2 : i + 1 < l.length := by have := of_decide_eq_true hg52; rw [List.length_map, kksOf_len] at this; omega
     obtain ⟨kid2, hkid2⟩ := get_lt hlt2
     obtain ⟨y, hyf, hy⟩ := kk_key hw hkid2
     have hfy : frm.lt y.1 := key_after hw hs (fun z hz => (hin z hz).2) hkid hkid2 hy
     refine awp_drawS [44, 45, 46, 47, 48, 49, 50, 51, 52, 53, 54, 55, 56, 57, 58, 59, 60, 61] [_, _, _, _, _, _, _, _, _, _, _, _, _, _, _, _, _, _] [] [] TI.mixed rfl rfl rfl ⟨⟨⟨⟨⟨⟨⟨⟨⟨⟨⟨⟨⟨⟨⟨⟨⟨⟨trivial
      , ⟨_, rfl, fun sl hd hr ho => by
        refine r_move (hr 7 _ rfl rfl rfl) rfl ?_
        exact awl_nil ⟨rfl, post_put⟩⟩⟩
      , ⟨_, rfl, fun sl hd hr ho => by
        refine r_ari _ (hd 0 _ rfl rfl rfl) rfl rfl (wrap_id (by first | omega | (simp; omega))) rfl ?_
        exact awl_nil ⟨rfl, post_put⟩⟩⟩
      , ⟨_, rfl, fun sl hd hr ho => by
        refine r_move (hr 0 _ rfl rfl rfl) rfl ?_
        exact awl_nil ⟨rfl, post_put⟩⟩⟩
      , ⟨_, rfl, fun sl hd hr ho => by
        refine r_nilCheck (hd 2 _ rfl rfl rfl) (by first | exact .pt _ _ | exact .v _ | exact .cp _) rfl ?_
        exact awl_nil ⟨rfl, post_put⟩⟩⟩
      , ⟨_, rfl, fun sl hd hr ho => by
        refine r_fieldpt (hd 3 _ rfl rfl rfl) TI.f82_0 TI.sz78 rfl ?_
        exact awl_nil ⟨rfl, post_put⟩⟩⟩
      , ⟨_, rfl, fun sl hd hr ho => by
        refine r_load1 (hd 4 _ rfl rfl rfl) TI.agg78 rfl ?_
        exact awl_nil ⟨rfl, post_put⟩⟩⟩
      , ⟨_, rfl, fun sl hd hr ho => by
        refine r_lenS (hd 5 _ rfl rfl rfl) rfl TI.sl78 rfl ?_
        exact awl_nil ⟨rfl, post_put⟩⟩⟩
      , ⟨_, rfl, fun sl hd hr ho => by
        refine r_cmp (hd 1 _ rfl rfl rfl) (hd 6 _ rfl rfl rfl) rfl rfl ?_
        exact awl_nil ⟨rfl, post_put⟩⟩⟩
      , ⟨_, rfl, fun sl hd hr ho => by
        refine r_move (hd 7 _ rfl rfl rfl) rfl ?_
        exact awl_nil ⟨rfl, post_put⟩⟩⟩
      , ⟨_, rfl, fun sl hd hr ho => by
        refine g_run rfl (hd 8 _ rfl rfl rfl) hg52 ?_
        refine r_loadA (hr 2 _ rfl rfl rfl) TI.agg47 TI.sz47 rfl rfl ?_
        exact awl_nil ⟨rfl, post_put⟩⟩⟩
      , ⟨_, rfl, fun sl hd hr ho => by
        refine g_run rfl (hd 8 _ rfl rfl rfl) hg52 ?_
        refine r_move (hr 0 _ rfl rfl rfl) rfl ?_
        exact awl_nil ⟨rfl, post_put⟩⟩⟩
      , ⟨_, rfl, fun sl hd hr ho => by
        refine g_run rfl (hd 8 _ rfl rfl rfl) hg52 ?_
        refine r_nilCheck (hd 10 _ rfl rfl rfl) (by first | exact .pt _ _ | exact .v _ | exact .cp _) rfl ?_
        exact awl_nil ⟨rfl, post_put⟩⟩⟩
      , ⟨_, rfl, fun sl hd hr ho => by
        refine g_run rfl (hd 8 _ rfl rfl rfl) hg52 ?_
        refine r_fieldpt (hd 11 _ rfl rfl rfl) TI.f82_0 TI.sz78 rfl ?_
        exact awl_nil ⟨rfl, post_put⟩⟩⟩
      , ⟨_, rfl, fun sl hd hr ho => by
        refine g_run rfl (hd 8 _ rfl rfl rfl) hg52 ?_
        refine r_load1 (hd 12 _ rfl rfl rfl) TI.agg78 rfl ?_
        exact awl_nil ⟨rfl, post_put⟩⟩⟩
      , ⟨_, rfl, fun sl hd hr ho => by
        refine g_run rfl (hd 8 _ rfl rfl rfl) hg52 ?_
        refine r_move (hr 7 _ rfl rfl rfl) rfl ?_
        exact awl_nil ⟨rfl, post_put⟩⟩⟩
      , ⟨_, rfl, fun sl hd hr ho => by
        refine g_run rfl (hd 8 _ rfl rfl rfl) hg52 ?_
        refine r_ari _ (hd 14 _ rfl rfl rfl) rfl rfl (wrap_id (by first | omega | (simp; omega))) rfl ?_
        exact awl_nil ⟨rfl, post_put⟩⟩⟩
      , ⟨_, rfl, fun sl hd hr ho => by
        refine g_run rfl (hd 8 _ rfl rfl rfl) hg52 ?_
        refine r_index (hd 13 _ rfl rfl rfl) rfl (hd 15 _ rfl rfl rfl) TI.sl78 TI.sz47 (by omega) (get_map hy) rfl ?_
        exact awl_nil ⟨rfl, post_put⟩⟩⟩
      , ⟨_, rfl, fun sl hd hr ho => by
        refine g_run rfl (hd 8 _ rfl rfl rfl) hg52 ?_
        refine r_loadA (hd 16 _ rfl rfl rfl) TI.agg47 TI.sz47 rfl rfl ?_
        exact awl_nil ⟨rfl, post_put⟩⟩⟩
      (by rfl) ?_
     refine g_run rfl rfl hg52 ?_
     refine r_call0 hq rfl rfl (.cons (.ev rfl rfl) (.cons (.ev rfl rfl) .nil)) (before_ok frm y.1) rfl TI.en53 rfl (fun r hr => ?_)
     obtain rfl := hr
     refine g_run rfl rfl hg52 ?_
     refine r_not rfl rfl ?_
     refine r_pickT rfl hg52 rfl rfl ?_
     refine r_assign rfl rfl ?_
     refine awl_nil ?_
     refine x_then ?_
     refine awp_cond rfl (fun hc4 => ?_) (fun hc4 => ?_)
     ·
      exfalso; rw [decide_eq_true hfy] at hc4; cases hc4
     ·
      refine awp_seq ?_
      refine awp_drawS [66, 67, 68, 69, 70, 71, 72, 73] [_, _, _, _, _, _, _, _] [] [] TI.mixed rfl rfl rfl ⟨⟨⟨⟨⟨⟨⟨⟨trivial
       , ⟨_, rfl, fun sl hd hr ho => by
         refine r_load1b 1 (hr 4 _ rfl rfl rfl) rfl rfl TI.agg126 rfl ?_
         exact awl_nil ⟨rfl, post_put⟩⟩⟩
       , ⟨_, rfl, fun sl hd hr ho => by
         refine r_move (hr 0 _ rfl rfl rfl) rfl ?_
         exact awl_nil ⟨rfl, post_put⟩⟩⟩
       , ⟨_, rfl, fun sl hd hr ho => by
         refine r_nilCheck (hd 1 _ rfl rfl rfl) (by first | exact .pt _ _ | exact .v _ | exact .cp _) rfl ?_
         exact awl_nil ⟨rfl, post_put⟩⟩⟩
       , ⟨_, rfl, fun sl hd hr ho => by
         refine r_fieldpt (hd 2 _ rfl rfl rfl) TI.f82_2 TI.sz80 rfl ?_
         exact awl_nil ⟨rfl, post_put⟩⟩⟩
       , ⟨_, rfl, fun sl hd hr ho => by
         refine r_load1 (hd 3 _ rfl rfl rfl) TI.agg80 rfl ?_
         exact awl_nil ⟨rfl, post_put⟩⟩⟩
       , ⟨_, rfl, fun sl hd hr ho => by
         refine r_move (hr 7 _ rfl rfl rfl) rfl ?_
         exact awl_nil ⟨rfl, post_put⟩⟩⟩
       , ⟨_, rfl, fun sl hd hr ho => by
         refine r_index (hd 4 _ rfl rfl rfl) rfl (hd 5 _ rfl rfl rfl) TI.sl80 TI.sz36 (by omega) (get_map (get_map hkid)) rfl ?_
         exact awl_nil ⟨rfl, post_put⟩⟩⟩
       , ⟨_, rfl, fun sl hd hr ho => by
         refine r_load1 (hd 6 _ rfl rfl rfl) TI.agg36 rfl ?_
         exact awl_nil ⟨rfl, post_put⟩⟩⟩
       (by rfl) ?_
      refine r_callPC hq Cs hcs (wo := wv) (un := [⟨b8, true, .box x.1.cs⟩, ⟨b5, false, .box [.fn 66 [.cp to.cs, .cp frm.cs, .cp [.v (.func (.yield l0) #[] #[])], .v (.pointer (some ⟨b5, 0, none⟩))]]⟩]) rfl rfl (.cons (.ev rfl rfl) .nil) (ih kid (hw kid (List.mem_of_getElem? hkid)) hsk (fun z hz => hin z (kid_flat hkid hz)) false _ wv hp2 _ hR2 hJi) rfl TI.en66 List.perm_append_comm (.cons _ (List.Sublist.refl _)) rfl (fun r nobjs hr => ?_)
      obtain ⟨wo', rfl, hr⟩ := hr
      rw [tr_tr]
      refine awl_imp (imp_perm (objs := [⟨b8, true, .box x.1.cs⟩, ⟨b5, false, .box [.fn 66 [.cp to.cs, .cp frm.cs, .cp [.v (.func (.yield l0) #[] #[])], .v (.pointer (some ⟨b5, 0, none⟩))]]⟩] ++ Tr wo') List.perm_append_comm) ?_
      rcases hr with ⟨rfl, hJ2⟩ | ⟨rfl, xs, hD2⟩
      ·
       refine r_not rfl rfl ?_
       refine r_assign rfl rfl ?_
       refine awl_nil ?_
       refine x_then ?_
       refine awp_cond rfl (fun hc5 => ?_) (fun hc5 => ?_)
       ·
        exfalso; cases hc5
       ·
        refine awp_skip ?_
        refine x_block ?_
        refine x_block ?_
        refine x_then ?_
        refine awp_region ?_
        refine r_ari _ rfl rfl rfl (wrap_id (by first | omega | (simp; omega))) rfl ?_
        refine r_move rfl rfl ?_
        refine awl_nil ?_
        refine x_then ?_
        refine ⟨l.length - (i + 1), ⟨77, [(0, .a (ndA c (kksOf h l) [] (l.map (enc h)))), (1, .a (.cp to.cs)), (2, .a (.cp frm.cs)), (3, .a (.cp [.v (.func (.yield l0) #[] #[])])), (4, .a (.v (.pointer (some ⟨b5, 0, none⟩)))), (12, .a (.sl 4 ((kksOf h l).map Sp.cs))), (13, .a (.v (.int .i64 ((((kksOf h l).map Sp.cs).length : Nat))))), (14, .a (.v (.int .i64 (((i + 1) : Int)))))], ⟨b5, false, .box [.fn 66 [.cp to.cs, .cp frm.cs, .cp [.v (.func (.yield l0) #[] #[])], .v (.pointer (some ⟨b5, 0, none⟩))]]⟩ :: Tr (wo')⟩, ⟨rfl, (Slots.cons rfl (by first | exact .refl _ | exact .nilOwn _ _ | exact .nilSl _ | exact .ownSl _ _ _  | exact SV.le.of_eq (by simp)) (Slots.cons rfl (by first | exact .refl _ | exact .nilOwn _ _ | exact .nilSl _ | exact .ownSl _ _ _  | exact SV.le.of_eq (by simp)) (Slots.cons rfl (by first | exact .refl _ | exact .nilOwn _ _ | exact .nilSl _ | exact .ownSl _ _ _  | exact SV.le.of_eq (by simp)) (Slots.cons rfl (by first | exact .refl _ | exact .nilOwn _ _ | exact .nilSl _ | exact .ownSl _ _ _  | exact SV.le.of_eq (by simp)) (Slots.cons rfl (by first | exact .refl _ | exact .nilOwn _ _ | exact .nilSl _ | exact .ownSl _ _ _  | exact SV.le.of_eq (by simp)) (Slots.cons rfl (by first | exact .refl _ | exact .nilOwn _ _ | exact .nilSl _ | exact .ownSl _ _ _  | exact SV.le.of_eq (by simp)) (Slots.cons rfl (by first | exact .refl _ | exact .nilOwn _ _ | exact .nilSl _ | exact .ownSl _ _ _  | exact SV.le.of_eq (by simp)) (Slots.cons rfl (by first | exact .refl _ | exact .nilOwn _ _ | exact .nilSl _ | exact .ownSl _ _ _  | exact SV.le.of_eq (by simp)) Slots.nil)))))))), (.cons _ (List.Sublist.refl _))⟩, (by omega), ⟨i + 1, wo', rfl, rfl, (by omega), (by rw [flatK_succ hkid, List.map_append, ← List.append_assoc]; exact hJ2)⟩⟩
      ·
       refine r_not rfl rfl ?_
       refine r_assign rfl rfl ?_
       refine awl_nil ?_
       refine x_then ?_
       refine awp_cond rfl (fun hc5 => ?_) (fun hc5 => ?_)
       ·
        skip
        refine awp_seq ?_
        refine awp_region ?_
        refine r_assign rfl rfl ?_
        refine awl_nil ?_
        refine x_then ?_
        refine awp_ret ?_
        refine x_blockR ?_
        refine x_blockR ?_
        refine x_thenR ?_
        refine x_thenR ?_
        refine x_blockR ?_
        refine x_thenR ?_
        refine x_scopeR ?_
        exact ⟨(.inl rfl), _, Tr wo', (.one (by first | exact .mk rfl rfl | exact .nil rfl)), ⟨wo', rfl, .inr ⟨rfl, xs, hD2⟩⟩, (.cons _ (.cons _ (List.Sublist.refl _))), tr_rwS⟩
       ·
        exfalso; cases hc5
    ·
     refine awp_drawS [44, 45, 46, 47, 48, 49, 50, 51, 52, 53, 54, 55, 56, 57, 58, 59, 60, 61] [_, _, _, _, _, _, _, _, _, _, _, _, _, _, _, _, _, _] [] [] TI.mixed rfl rfl rfl ⟨⟨⟨⟨⟨⟨⟨⟨⟨⟨⟨⟨⟨⟨⟨⟨⟨⟨trivial
      , ⟨_, rfl, fun sl hd hr ho => by
        refine r_move (hr 7 _ rfl rfl rfl) rfl ?_
        exact awl_nil ⟨rfl, post_put⟩⟩⟩
      , ⟨_, rfl, fun sl hd hr ho => by
        refine r_ari _ (hd 0 _ rfl rfl rfl) rfl rfl (wrap_id (by first | omega | (simp; omega))) rfl ?_
        exact awl_nil ⟨rfl, post_put⟩⟩⟩
      , ⟨_, rfl, fun sl hd hr ho => by
        refine r_move (hr 0 _ rfl rfl rfl) rfl ?_
        exact awl_nil ⟨rfl, post_put⟩⟩⟩
      , ⟨_, rfl, fun sl hd hr ho => by
        refine r_nilCheck (hd 2 _ rfl rfl rfl) (by first | exact .pt _ _ | exact .v _ | exact .cp _) rfl ?_
        exact awl_nil ⟨rfl, post_put⟩⟩⟩
      , ⟨_, rfl, fun sl hd hr ho => by
        refine r_fieldpt (hd 3 _ rfl rfl rfl) TI.f82_0 TI.sz78 rfl ?_
        exact awl_nil ⟨rfl, post_put⟩⟩⟩
      , ⟨_, rfl, fun sl hd hr ho => by
        refine r_load1 (hd 4 _ rfl rfl rfl) TI.agg78 rfl ?_
        exact awl_nil ⟨rfl, post_put⟩⟩⟩
      , ⟨_, rfl, fun sl hd hr ho => by
        refine r_lenS (hd 5 _ rfl rfl rfl) rfl TI.sl78 rfl ?_
        exact awl_nil ⟨rfl, post_put⟩⟩⟩
      , ⟨_, rfl, fun sl hd hr ho => by
        refine r_cmp (hd 1 _ rfl rfl rfl) (hd 6 _ rfl rfl rfl) rfl rfl ?_
        exact awl_nil ⟨rfl, post_put⟩⟩⟩
      , ⟨_, rfl, fun sl hd hr ho => by
        refine r_move (hd 7 _ rfl rfl rfl) rfl ?_
        exact awl_nil ⟨rfl, post_put⟩⟩⟩
      , ⟨_, rfl, fun sl hd hr ho => by
        refine g_skip rfl (hd 8 _ rfl rfl rfl) hg52 rfl ?_
        exact awl_nil ⟨rfl, post_put⟩⟩⟩
      , ⟨_, rfl, fun sl hd hr ho => by
        refine g_skip rfl (hd 8 _ rfl rfl rfl) hg52 rfl ?_
        exact awl_nil ⟨rfl, post_put⟩⟩⟩
      , ⟨_, rfl, fun sl hd hr ho => by
        refine g_skip rfl (hd 8 _ rfl rfl rfl) hg52 rfl ?_
        exact awl_nil ⟨rfl, post_put⟩⟩⟩
      , ⟨_, rfl, fun sl hd hr ho => by
        refine g_skip rfl (hd 8 _ rfl rfl rfl) hg52 rfl ?_
        exact awl_nil ⟨rfl, post_put⟩⟩⟩
      , ⟨_, rfl, fun sl hd hr ho => by
        refine g_skip rfl (hd 8 _ rfl rfl rfl) hg52 rfl ?_
        exact awl_nil ⟨rfl, post_put⟩⟩⟩
      , ⟨_, rfl, fun sl hd hr ho => by
        refine g_skip rfl (hd 8 _ rfl rfl rfl) hg52 rfl ?_
        exact awl_nil ⟨rfl, post_put⟩⟩⟩
      , ⟨_, rfl, fun sl hd hr ho => by
        refine g_skip rfl (hd 8 _ rfl rfl rfl) hg52 rfl ?_
        exact awl_nil ⟨rfl, post_put⟩⟩⟩
      , ⟨_, rfl, fun sl hd hr ho => by
        refine g_skip rfl (hd 8 _ rfl rfl rfl) hg52 rfl ?_
        exact awl_nil ⟨rfl, post_put⟩⟩⟩
      , ⟨_, rfl, fun sl hd hr ho => by
        refine g_skip rfl (hd 8 _ rfl rfl rfl) hg52 rfl ?_
        exact awl_nil ⟨rfl, post_put⟩⟩⟩
      (by rfl) ?_
     refine g_skip rfl rfl hg52 rfl ?_
     refine g_skip rfl rfl hg52 rfl ?_
     refine r_pickF rfl hg52 rfl rfl ?_
     refine r_assign rfl rfl ?_
     refine awl_nil ?_
     refine x_then ?_
     refine awp_condF rfl ?_
     refine awp_seq ?_
     refine awp_drawS [66, 67, 68, 69, 70, 71, 72, 73] [_, _, _, _, _, _, _, _] [] [] TI.mixed rfl rfl rfl ⟨⟨⟨⟨⟨⟨⟨⟨trivial
      , ⟨_, rfl, fun sl hd hr ho => by
        refine r_load1b 1 (hr 4 _ rfl rfl rfl) rfl rfl TI.agg126 rfl ?_
        exact awl_nil ⟨rfl, post_put⟩⟩⟩
      , ⟨_, rfl, fun sl hd hr ho => by
        refine r_move (hr 0 _ rfl rfl rfl) rfl ?_
        exact awl_nil ⟨rfl, post_put⟩⟩⟩
      , ⟨_, rfl, fun sl hd hr ho => by
        refine r_nilCheck (hd 1 _ rfl rfl rfl) (by first | exact .pt _ _ | exact .v _ | exact .cp _) rfl ?_
        exact awl_nil ⟨rfl, post_put⟩⟩⟩
      , ⟨_, rfl, fun sl hd hr ho => by
        refine r_fieldpt (hd 2 _ rfl rfl rfl) TI.f82_2 TI.sz80 rfl ?_
        exact awl_nil ⟨rfl, post_put⟩⟩⟩
      , ⟨_, rfl, fun sl hd hr ho => by
        refine r_load1 (hd 3 _ rfl rfl rfl) TI.agg80 rfl ?_
        exact awl_nil ⟨rfl, post_put⟩⟩⟩
      , ⟨_, rfl, fun sl hd hr ho => by
        refine r_move (hr 7 _ rfl rfl rfl) rfl ?_
        exact awl_nil ⟨rfl, post_put⟩⟩⟩
      , ⟨_, rfl, fun sl hd hr ho => by
        refine r_index (hd 4 _ rfl rfl rfl) rfl (hd 5 _ rfl rfl rfl) TI.sl80 TI.sz36 (by omega) (get_map (get_map hkid)) rfl ?_
        exact awl_nil ⟨rfl, post_put⟩⟩⟩
      , ⟨_, rfl, fun sl hd hr ho => by
        refine r_load1 (hd 6 _ rfl rfl rfl) TI.agg36 rfl ?_
        exact awl_nil ⟨rfl, post_put⟩⟩⟩
      (by rfl) ?_
     refine r_callPC hq Cs hcs (wo := wv) (un := [⟨b8, true, .box x.1.cs⟩, ⟨b5, false, .box [.fn 66 [.cp to.cs, .cp frm.cs, .cp [.v (.func (.yield l0) #[] #[])], .v (.pointer (some ⟨b5, 0, none⟩))]]⟩]) rfl rfl (.cons (.ev rfl rfl) .nil) (ih kid (hw kid (List.mem_of_getElem? hkid)) hsk (fun z hz => hin z (kid_flat hkid hz)) false _ wv hp2 _ hR2 hJi) rfl TI.en66 List.perm_append_comm (.cons _ (List.Sublist.refl _)) rfl (fun r nobjs hr => ?_)
     obtain ⟨wo', rfl, hr⟩ := hr
     rw [tr_tr]
     refine awl_imp (imp_perm (objs := [⟨b8, true, .box x.1.cs⟩, ⟨b5, false, .box [.fn 66 [.cp to.cs, .cp frm.cs, .cp [.v (.func (.yield l0) #[] #[])], .v (.pointer (some ⟨b5, 0, none⟩))]]⟩] ++ Tr wo') List.perm_append_comm) ?_
     rcases hr with ⟨rfl, hJ2⟩ | ⟨rfl, xs, hD2⟩
     ·
      refine r_not rfl rfl ?_
      refine r_assign rfl rfl ?_
      refine awl_nil ?_
      refine x_then ?_
      refine awp_cond rfl (fun hc5 => ?_) (fun hc5 => ?_)
      ·
       exfalso; cases hc5
      ·
       refine awp_skip ?_
       refine x_block ?_
       refine x_block ?_
       refine x_then ?_
       refine awp_region ?_
       refine r_ari _ rfl rfl rfl (wrap_id (by first | omega | (simp; omega))) rfl ?_
       refine r_move rfl rfl ?_
       refine awl_nil ?_
       refine x_then ?_
       refine ⟨l.length - (i + 1), ⟨77, [(0, .a (ndA c (kksOf h l) [] (l.map (enc h)))), (1, .a (.cp to.cs)), (2, .a (.cp frm.cs)), (3, .a (.cp [.v (.func (.yield l0) #[] #[])])), (4, .a (.v (.pointer (some ⟨b5, 0, none⟩)))), (12, .a (.sl 4 ((kksOf h l).map Sp.cs))), (13, .a (.v (.int .i64 ((((kksOf h l).map Sp.cs).length : Nat))))), (14, .a (.v (.int .i64 (((i + 1) : Int)))))], ⟨b5, false, .box [.fn 66 [.cp to.cs, .cp frm.cs, .cp [.v (.func (.yield l0) #[] #[])], .v (.pointer (some ⟨b5, 0, none⟩))]]⟩ :: Tr (wo')⟩, ⟨rfl, (Slots.cons rfl (by first | exact .refl _ | exact .nilOwn _ _ | exact .nilSl _ | exact .ownSl _ _ _  | exact SV.le.of_eq (by simp)) (Slots.cons rfl (by first | exact .refl _ | exact .nilOwn _ _ | exact .nilSl _ | exact .ownSl _ _ _  | exact SV.le.of_eq (by simp)) (Slots.cons rfl (by first | exact .refl _ | exact .nilOwn _ _ | exact .nilSl _ | exact .ownSl _ _ _  | exact SV.le.of_eq (by simp)) (Slots.cons rfl (by first | exact .refl _ | exact .nilOwn _ _ | exact .nilSl _ | exact .ownSl _ _ _  | exact SV.le.of_eq (by simp)) (Slots.cons rfl (by first | exact .refl _ | exact .nilOwn _ _ | exact .nilSl _ | exact .ownSl _ _ _  | exact SV.le.of_eq (by simp)) (Slots.cons rfl (by first | exact .refl _ | exact .nilOwn _ _ | exact .nilSl _ | exact .ownSl _ _ _  | exact SV.le.of_eq (by simp)) (Slots.cons rfl (by first | exact .refl _ | exact .nilOwn _ _ | exact .nilSl _ | exact .ownSl _ _ _  | exact SV.le.of_eq (by simp)) (Slots.cons rfl (by first | exact .refl _ | exact .nilOwn _ _ | exact .nilSl _ | exact .ownSl _ _ _  | exact SV.le.of_eq (by simp)) Slots.nil)))))))), (.cons _ (List.Sublist.refl _))⟩, (by omega), ⟨i + 1, wo', rfl, rfl, (by omega), (by rw [flatK_succ hkid, List.map_append, ← List.append_assoc]; exact hJ2)⟩⟩
     ·
      refine r_not rfl rfl ?_
      refine r_assign rfl rfl ?_
      refine awl_nil ?_
      refine x_then ?_
      refine awp_cond rfl (fun hc5 => ?_) (fun hc5 => ?_)
      ·
       skip
       refine awp_seq ?_
       refine awp_region ?_
       refine r_assign rfl rfl ?_
       refine awl_nil ?_
       refine x_then ?_
       refine awp_ret ?_
       refine x_blockR ?_
       refine x_blockR ?_
       refine x_thenR ?_
       refine x_thenR ?_
       refine x_blockR ?_
       refine x_thenR ?_
       refine x_scopeR ?_
       exact ⟨(.inl rfl), _, Tr wo', (.one (by first | exact .mk rfl rfl | exact .nil rfl)), ⟨wo', rfl, .inr ⟨rfl, xs, hD2⟩⟩, (.cons _ (.cons _ (List.Sublist.refl _))), tr_rwS⟩
      ·
       exfalso; cases hc5
 ·
  have hge : l.length ≤ i := by have := of_decide_eq_false hc0; rw [List.length_map, kksOf_len] at this; omega
  obtain rfl : i = l.length := by omega
  rw [List.take_length] at hJi
  refine awp_exit ?_
  refine x_thenE ?_
  refine x_thenE ?_
  refine x_blockE ?_
  refine x_then ?_
  refine awp_seq ?_
  refine awp_region ?_
  refine r_assign rfl rfl ?_
  refine awl_nil ?_
  refine x_then ?_
  refine awp_ret ?_
  refine x_scopeR ?_
  exact ⟨(.inl rfl), _, Tr wv, (.one (by first | exact .mk rfl rfl | exact .nil rfl)), ⟨wv, rfl, .inl ⟨rfl, hJi⟩⟩, (.cons _ (List.Sublist.refl _)), tr_rwS⟩
theorem rgw_ok (to frm : Sp) (l0 b5 : Nat) (Cs : CS) (J D : List (List AV) → List OE → Prop) (L : List It) (hY : ∀ pre x wo, J pre wo → rgA L pre x → YCs Cs Try.prog l0 x wo (fun bb n => if bb = true then J (pre ++ [x]) n else D (pre ++ [x]) n)) : ∀ (h : Nat) (n : Nd h), wfC 1 h n.2 → Srt (flat h n.2) → (∀ z ∈ flat h n.2, ¬ to.lt z.1 ∧ ¬ z.1.lt frm) → ∀ (f5 : Bool) (pre : List (List AV)) (wo : List OE) (hp : pre = (L.take pre.length).map zA) (R : List It) (hR : L.drop pre.length = flat h n.2 ++ R) (hJ : J pre wo), AWC Cs Try.prog 66 [enc h n, .cp to.cs, .cp frm.cs, .cp [.v (.func (.yield l0) #[] #[])], .v (.pointer (some ⟨b5, 0, none⟩))] [⟨b5, f5, .box [.fn 66 [.cp to.cs, .cp frm.cs, .cp [.v (.func (.yield l0) #[] #[])], .v (.pointer (some ⟨b5, 0, none⟩))]]⟩] wo (fun r nb => ∃ wo', nb = Tr wo' ∧ ((r = boolA true ∧ J (pre ++ (flat h n.2).map zA) wo') ∨ (r = boolA false ∧ ∃ xs, D xs wo')))
  | 0, n, hw, hs, hin, f5, pre, wo, hp, R, hR, hJ => rgw_leaf to frm l0 b5 Cs J D L hY n.1 (itsOf n) hw.hi hin f5 pre wo hp R hR hJ
  | h + 1, n, hw, hs, hin, f5, pre, wo, hp, R, hR, hJ => rgw_inner to frm l0 b5 Cs J D L hY h (rgw_ok to frm l0 b5 Cs J D L hY h) n.1 (kdsOf n) hw.1 hw.2.1 (wf_kids1 hw) hs hin f5 pre wo hp R hR hJ
theorem Range_ok (t : TreeV) (frm to : Sp) : AC Try.prog 49 [encT t, spA frm, spA to] [] (fun r n => n = [] ∧ r = .fn 65 [.cp to.cs, .cp frm.cs, .cp [encT t]]) := by
 refine ac_of_awp (rs := [6]) (nt := 8) Try.func49 rfl rfl rfl rfl (fun w0 C0 hq => ?_)
 refine awp_seq ?_
 refine awp_region ?_
 refine r_box rfl (encT_cells t) rfl (fun b3 => ?_)
 refine r_box rfl rfl rfl (fun b4 => ?_)
 refine r_box rfl rfl rfl (fun b5 => ?_)
 refine r_assign rfl rfl ?_
 refine awl_nil ?_
 refine x_then ?_
 refine awp_seq ?_
 refine awp_region ?_
 refine awl_imp (imp_commit 0 5 rfl rfl rfl rfl) ?_
 refine awl_imp (imp_commit 0 4 rfl rfl rfl rfl) ?_
 refine awl_imp (imp_commit 0 3 rfl rfl (encT_one t) rfl) ?_
 refine r_makeFunc rfl (.cons (.ev rfl rfl) (.cons (.ev rfl rfl) (.cons (.ev rfl rfl) .nil))) rfl ?_
 refine r_assign rfl rfl ?_
 refine awl_nil ?_
 refine x_then ?_
 refine awp_ret ?_
 exact ⟨(.inl rfl), _, [], (.one (by first | exact .mk rfl rfl | exact .nil rfl)), ⟨rfl, rfl⟩, (List.nil_sublist _), (by simp)⟩
theorem Range1_none (t : TreeV) (hrt : rootT t = none) (to frm : Sp) : IterS Try.prog 65 [.cp to.cs, .cp frm.cs, .cp [encT t]] [] (rgA []) (fun xs => xs = [].map zA) := by
 intro l0 Cs J D hY wo hJ0
 refine awc_of_awpG Cs (so := Tr wo) (nt := 15) (fun S r => Result1 S [] r) Try.func65 rfl rfl rfl rfl (result1_run rfl) (fun w0 C0 hq hcs => ?_)
 refine awp_seq ?_
 refine awp_region ?_
 refine r_box rfl rfl rfl (fun b4 => ?_)
 refine awl_imp (imp_commit 0 4 rfl rfl rfl rfl) ?_
 refine awl_nil ?_
 refine x_then ?_
 refine awp_seq ?_
 refine awp_region ?_
 refine r_alloc TI.zero126 rfl (fun b5 => ?_)
 refine awl_nil ?_
 refine x_then ?_
 refine awp_seq ?_
 refine awp_region ?_
 refine r_makeFunc rfl (.cons (.ev rfl rfl) (.cons (.ev rfl rfl) (.cons (.ev rfl rfl) (.cons (.ev rfl rfl) .nil)))) rfl ?_
 refine r_store 0 rfl rfl rfl TI.sz126 rfl rfl rfl ?_
 refine awl_nil ?_
 refine x_then ?_
 refine awp_seq ?_
 refine awp_region ?_
 refine r_load1 rfl TI.agg24 rfl ?_
 refine r_call0 hq rfl rfl (.cons (.ev rfl rfl) .nil) (Root_ok t) rfl TI.en18 rfl (fun r hr => ?_)
 obtain rfl := hr
 rw [hrt]
 show AWL _ _ _ _ _ _ (AState.put _ 9 (.a (.v (.pointer none))))
 refine r_assign rfl rfl ?_
 refine awl_nil ?_
 refine x_then ?_
 refine awp_seq ?_
 refine awp_region ?_
 refine r_move rfl rfl ?_
 refine r_pnnil rfl (by first | exact .pt _ _ | exact .nil | exact .v _ | exact .cp _) TI.un36 rfl ?_
 refine awl_nil ?_
 refine x_then ?_
 refine awp_cond rfl (fun hc0 => ?_) (fun hc0 => ?_)
 ·
  exfalso; cases hc0
 ·
  refine awp_skip ?_
  exact ⟨(.inr rfl), _, Tr wo, .none, ⟨[], wo, rfl, .inl ⟨rfl, hJ0⟩⟩, (.cons _ (List.Sublist.refl _)), tr_rwS⟩
theorem Range1_some (t : TreeV) (h : Nat) (n : Nd h) (hrt : rootT t = some ⟨h, n⟩) (hw : wfC 1 h n.2) (hs : Srt (flat h n.2)) (to frm : Sp) (hin : ∀ z ∈ flat h n.2, ¬ to.lt z.1 ∧ ¬ z.1.lt frm) : IterS Try.prog 65 [.cp to.cs, .cp frm.cs, .cp [encT t]] [] (rgA (flat h n.2)) (fun xs => xs = (flat h n.2).map zA) := by
 intro l0 Cs J D hY wo hJ0
 refine awc_of_awpG Cs (so := Tr wo) (nt := 15) (fun S r => Result1 S [] r) Try.func65 rfl rfl rfl rfl (result1_run rfl) (fun w0 C0 hq hcs => ?_)
 refine awp_seq ?_
 refine awp_region ?_
 refine r_box rfl rfl rfl (fun b4 => ?_)
 refine awl_imp (imp_commit 0 4 rfl rfl rfl rfl) ?_
 refine awl_nil ?_
 refine x_then ?_
 refine awp_seq ?_
 refine awp_region ?_
 refine r_alloc TI.zero126 rfl (fun b5 => ?_)
 refine awl_nil ?_
 refine x_then ?_
 refine awp_seq ?_
 refine awp_region ?_
 refine r_makeFunc rfl (.cons (.ev rfl rfl) (.cons (.ev rfl rfl) (.cons (.ev rfl rfl) (.cons (.ev rfl rfl) .nil)))) rfl ?_
 refine r_store 0 rfl rfl rfl TI.sz126 rfl rfl rfl ?_
 refine awl_nil ?_
 refine x_then ?_
 refine awp_seq ?_
 refine awp_region ?_
 refine r_load1 rfl TI.agg24 rfl ?_
 refine r_call0 hq rfl rfl (.cons (.ev rfl rfl) .nil) (Root_ok t) rfl TI.en18 rfl (fun r hr => ?_)
 obtain rfl := hr
 rw [hrt]
 refine awl_imp (imp_le 9 rfl (SV.le.avEq (enc_eq h n))) ?_
 refine r_assign rfl rfl ?_
 refine awl_nil ?_
 refine x_then ?_
 refine awp_seq ?_
 refine awp_region ?_
 refine r_move rfl rfl ?_
 refine r_pnnil rfl (by first | exact .pt _ _ | exact .nil | exact .v _ | exact .cp _) TI.un36 rfl ?_
 refine awl_nil ?_
 refine x_then ?_
 refine awp_cond rfl (fun hc0 => ?_) (fun hc0 => ?_)
 ·
  skip
  refine awp_region ?_
  refine r_load1b 0 rfl rfl rfl TI.agg126 rfl ?_
  refine r_move rfl rfl ?_
  refine awl_imp (imp_le 13 rfl (SV.le.avEq (enc_eq h n).symm)) ?_
  refine r_callPC hq Cs hcs (wo := wo) (un := [⟨b5, true, .box [.fn 66 [.cp to.cs, .cp frm.cs, .cp [.v (.func (.yield l0) #[] #[])], .v (.pointer (some ⟨b5, 0, none⟩))]]⟩]) rfl rfl (.cons (.ev rfl rfl) .nil) (rgw_ok to frm l0 b5 Cs J D (flat h n.2) hY h n hw hs hin true [] wo rfl [] (by rw [List.append_nil]; rfl) hJ0) rfl TI.en66 List.perm_append_comm (List.Sublist.refl _) rfl (fun r nobjs hr => ?_)
  obtain ⟨wo', rfl, hr⟩ := hr
  rw [tr_tr]
  rcases hr with ⟨rfl, hJ2⟩ | ⟨rfl, xs, hD2⟩
  ·
   refine awl_nil ?_
   exact ⟨(.inr rfl), _, Tr wo', .none, ⟨_, wo', rfl, .inl ⟨rfl, hJ2⟩⟩, (List.sublist_append_left _ _), tr_rwS⟩
  ·
   refine awl_nil ?_
   exact ⟨(.inr rfl), _, Tr wo', .none, ⟨xs, wo', rfl, .inr hD2⟩, (List.sublist_append_left _ _), tr_rwS⟩
 ·
  exfalso; cases hc0
theorem Range1_ok (t : TreeV) (x : List It) (hG : Good t x) (to frm : Sp) (hin : ∀ z ∈ x, ¬ to.lt z.1 ∧ ¬ z.1.lt frm) : IterS Try.prog 65 [.cp to.cs, .cp frm.cs, .cp [encT t]] [] (rgA x) (fun xs => xs = x.map zA) := by
  have hw := hG.wf; have hf := hG.fl; have hs := hG.st
  cases hr : rootT t with
  | none => rw [hr] at hf; cases hf; exact Range1_none t hr to frm
  | some s =>
    obtain ⟨h, n⟩ := s
    rw [hr] at hf hw
    cases hf
    exact Range1_some t h n hr hw.1 hs to frm hin
theorem All_ok (q : Rt × Int) (g : Nat) (f : Bool) : AC Try.prog 31 [.v (.pointer (some ⟨g, 0, none⟩))] [⟨g, f, .box [encT (some q)]⟩] (fun r n => n = [] ∧ r = .fn 48 [.cp [encT (some q)]]) := by
 refine ac_of_awp (rs := [2]) (nt := 7) Try.func31 rfl rfl rfl rfl (fun w0 C0 hq => ?_)
 refine awp_seq ?_
 refine awp_region ?_
 refine r_assign rfl rfl ?_
 refine awl_nil ?_
 refine x_then ?_
 refine awp_seq ?_
 refine awp_region ?_
 refine r_move rfl rfl ?_
 refine r_callO hq rfl rfl (.cons (.ev rfl rfl) .nil) (Tree_ok q g false) rfl TI.en30 (List.Sublist.refl _) rfl (fun r nobjs hr => ?_)
 obtain ⟨rfl, rfl⟩ := hr
 refine r_alloc TI.zero24 rfl (fun b3 => ?_)
 refine r_storeT 0 rfl rfl rfl TI.sz24 ?_
 refine awl_nil ?_
 refine x_then ?_
 refine awp_seq ?_
 refine awp_region ?_
 refine awl_imp (imp_commit 0 3 rfl rfl (encT_one _) rfl) ?_
 refine r_makeFunc rfl (.cons (.ev rfl rfl) .nil) rfl ?_
 refine r_assign rfl rfl ?_
 refine awl_nil ?_
 refine x_then ?_
 refine awp_ret ?_
 exact ⟨(.inl rfl), _, [], (.one (by first | exact .mk rfl rfl | exact .nil rfl)), ⟨rfl, rfl⟩, (List.nil_sublist _), (by simp)⟩
theorem All1_ok (t : TreeV) (x : List It) (hI : Idx t x) : IterS Try.prog 48 [.cp [encT t]] [] (alA x) (fun xs => xs = x.map sA) := by
 intro l0 Cs J D hY wo hJ0
 refine awc_of_awpG Cs (so := Tr wo) (nt := 16) (fun S r => Result1 S [] r) Try.func48 rfl rfl rfl rfl (result1_run rfl) (fun w0 C0 hq hcs => ?_)
 refine awp_seq ?_
 refine awp_region ?_
 refine r_box rfl rfl rfl (fun b2 => ?_)
 refine awl_imp (imp_commit 0 2 rfl rfl rfl rfl) ?_
 refine awl_nil ?_
 refine x_then ?_
 refine awp_seq ?_
 refine awp_region ?_
 refine r_load1 rfl TI.agg24 rfl ?_
 refine r_build (parts := [(0, .const ((Go.Value.int Go.IntKind.i64 (-9223372036854775808)))), (1, .const ((Go.Value.int Go.IntKind.i64 (-9223372036854775808)))), (2, .const ((Go.Value.int Go.IntKind.i64 (-9223372036854775808))))]) rfl TI.pl44 TI.zero44 rfl rfl rfl ?_
 refine r_build (parts := [(0, .tmp 5)]) rfl TI.pl47 TI.zero47 rfl rfl rfl ?_
 refine r_build (parts := [(0, .const ((Go.Value.int Go.IntKind.i64 9223372036854775807))), (1, .const ((Go.Value.int Go.IntKind.i64 9223372036854775807))), (2, .const ((Go.Value.int Go.IntKind.i64 9223372036854775807)))]) rfl TI.pl44 TI.zero44 rfl rfl rfl ?_
 refine r_build (parts := [(0, .tmp 7), (1, .const ((Go.Value.int Go.IntKind.u64 18446744073709551615)))]) rfl TI.pl47 TI.zero47 rfl rfl rfl ?_
 refine r_call0 hq rfl rfl (.cons (.ev rfl rfl) (.cons (.ev rfl rfl) (.cons (.ev rfl rfl) .nil))) (Range_ok t loS hiS) rfl TI.en49 rfl (fun r hr => ?_)
 obtain rfl := hr
 refine awl_nil ?_
 refine x_then ?_
 refine awp_block ?_
 refine awp_rangeFuncN (fun pre w => ∃ wv, w = Tr wv ∧ pre = (x.take pre.length).map zA ∧ J ((x.take pre.length).map sA) wv) (fun c pre w => c = .ret ∧ ∃ wv xs, w = Tr wv ∧ D xs wv) [(2, .a (.cp [.v (.func (.yield l0) #[] #[])]))] (Tr wo) ([]) hq hcs rfl (Range1_ok t x hI.good hiS loS hI.ix.range) TI.en65 (fun pre x ⟨z, _, _, h⟩ => by subst h; rfl) (by rw [List.append_nil]; exact List.Perm.refl _) (tr_all _) (List.nil_sublist _) (Slots.cons rfl (by first | exact .refl _ | exact .nilOwn _ _ | exact .nilSl _ | exact .ownSl _ _ _  | exact SV.le.of_eq (by simp)) Slots.nil) rfl rfl ⟨wo, rfl, rfl, hJ0⟩ ?_ ?_ ?_
 ·
  intro lr pre x wo rec busy w0 C0 hq hcs hj hax
  obtain ⟨wv, rfl, hpre, hJv⟩ := hj
  obtain ⟨z, hz, _, rfl⟩ := hax
  rw [tr_tr]
  refine awpi_region ?_
  refine awli_op (fun c h => (by cases h)) ?_
  refine r_alloc TI.zero47 rfl (fun b3 => ?_)
  refine awl_nil ⟨rfl, ?_⟩
  refine awli_op (fun c h => (by cases h)) ?_
  refine r_store 0 rfl rfl rfl TI.sz47 rfl rfl rfl ?_
  refine awl_nil ⟨rfl, ?_⟩
  refine awli_nil ?_
  refine ⟨rfl, (Tr wv).length + 1, (get_tail _ _ _), ?_⟩
  refine awpi_objs (o := ⟨b3, true, .box z.1.cs⟩ :: (Tr wv ++ [⟨lr, true, .loop busy⟩])) (by exact set_tail (α := OE) ⟨b3, true, .box z.1.cs⟩ ⟨lr, true, .loop rec⟩ ⟨lr, true, .loop busy⟩ (Tr wv)) ?_
  refine awpi_block ?_
  refine awpi_seq ?_
  refine awpi_region ?_
  refine awli_op (fun c h => (by cases h)) ?_
  refine r_load1 rfl TI.agg103 rfl ?_
  refine awl_nil ⟨rfl, ?_⟩
  refine awli_op (fun c h => (by cases h)) ?_
  refine r_loadAb 0 rfl rfl TI.agg47 TI.sz47 rfl rfl ?_
  refine awl_nil ⟨rfl, ?_⟩
  refine r_yieldSI hq (un := [⟨b3, true, .box z.1.cs⟩, ⟨lr, true, .loop busy⟩]) (fun n => ⟨b3, true, .box z.1.cs⟩ :: (Tr n ++ [⟨lr, true, .loop busy⟩])) rfl rfl (.cons (.ev rfl rfl) .nil) Cs hcs (hY _ (sA z) wv hJv (al_next hz hpre)) List.perm_middle (fun n => List.perm_middle) rfl (fun bb nobjs hJ' => ?_)
  refine awli_op (fun c h => (by cases h)) ?_
  refine r_not rfl rfl ?_
  refine awl_nil ⟨rfl, ?_⟩
  refine awli_nil ?_
  refine x_then ?_
  refine awpi_cond rfl (fun hc0 => ?_) (fun hc0 => ?_)
  ·
   have hbb : bb = false := by simpa using hc0
   subst hbb
   have hD2 : D _ _ := hJ'
   refine awpi_ret ?_
   refine x_blockR ?_
   refine ⟨Tr nobjs, .inr ⟨_, .ret, rfl, nobjs, _, rfl, hD2⟩, ?_, tr_rwS⟩
   · exact .cons _ (List.Sublist.refl _)
  ·
   have hbb : bb = true := by simpa using hc0
   subst hbb
   have hJ2 : J _ _ := hJ'
   refine awpi_skip ?_
   refine x_block ?_
   refine ⟨Tr nobjs, .inl ⟨rfl, nobjs, rfl, rg_snoc1 hz hpre, by rw [List.length_append, List.length_singleton, ← al_step hz]; exact hJ2⟩, ?_, tr_rwS⟩
   · exact .cons _ (List.Sublist.refl _)
 ·
  intro xs wo' hG hJ
  obtain ⟨wv, rfl, hpre, hJv⟩ := hJ
  refine x_block ?_
  exact ⟨(.inr rfl), _, Tr wv, .none, ⟨_, wv, rfl, .inl ⟨by rw [hG, List.length_map, List.take_length], hJv⟩⟩, (by rw [tr_tr, List.append_nil]; exact List.Sublist.refl _), tr_rwS⟩
 ·
  intro c xs wo' hX
  obtain ⟨rfl, wv, xs2, rfl, hD⟩ := hX
  refine awp_ret ?_
  refine x_blockR ?_
  exact ⟨(.inl rfl), _, Tr wv, .none, ⟨xs2, wv, rfl, .inr hD⟩, (by rw [tr_tr, List.append_nil]; exact List.Sublist.refl _), tr_rwS⟩
end Go.Proofs.Ytljgdbgcleibjaa.A

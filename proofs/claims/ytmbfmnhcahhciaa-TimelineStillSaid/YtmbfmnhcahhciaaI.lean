/- The rules of a walk over abstract states: guards, bools, boxes that are committed. -/
import Derived.Test.YtmbfmnhcahhciaaH
namespace Go.Proofs.Ytmbfmnhcahhciaa.A
open Go Go.RowKit
set_option linter.unusedVariables false
set_option linter.unusedSimpArgs false
set_option linter.unusedSectionVars false
variable {P : Program} {w0 : Base} {C0 C : CS} {T : TS} {S S' : AState} {a : Act} {w : World} {ops : Array Oper} {rest : List Oper} {o : Oper} {Q : Exit → AState → Prop}
variable {t : Nat} {ty ty' : TypeId} {pos : String} {aft : Array Edge}

theorem yielded_of (h : SimC w0 C0 C T S a w) {j t' : Nat} {b : Bool} (hj : (ops[j]?).bind (·.dst) = some t') (hs : S.get t' = some (.a (.v (.bool b)))) : yielded ops a.tmps j = some b := by
  have hv := h.slots _ _ hs
  have hv' : a.tmps.getD t' undef = .bool b := by generalize a.tmps.getD t' undef = u at hv; cases hv; rfl
  have ht : a.tmps[t']? = some (.bool b) := by
    cases hc : a.tmps[t']? with
    | none => rw [Array.getD_eq_getD_getElem?, hc] at hv'; simp [undef] at hv'
    | some v => rw [Array.getD_eq_getD_getElem?, hc] at hv'; simp at hv'; rw [hv']
  simp [yielded, hj, ht]

theorem g_run {d : Option Nat} {op : Op} {j t' : Nat} {want b : Bool} (hj : (ops[j]?).bind (·.dst) = some t') (hs : S.get t' = some (.a (.v (.bool b)))) (hb : b = want)
    (h : AWL P w0 C0 ops (⟨d, op, ty, pos, aft, none⟩ :: rest) Q S) : AWL P w0 C0 ops (⟨d, op, ty, pos, aft, some (j, want)⟩ :: rest) Q S := by
  rintro a w ⟨C, T, hs'⟩
  have hy := yielded_of hs' hj hs
  have := h a w ⟨C, T, hs'⟩
  unfold wpList at this ⊢
  have e1 : Region.wanted (⟨d, op, ty, pos, aft, none⟩ : Oper) (yielded ops a.tmps) = true := rfl
  have e2 : Region.wanted (⟨d, op, ty, pos, aft, some (j, want)⟩ : Oper) (yielded ops a.tmps) = true := by simp [Region.wanted, hy, hb]
  rw [if_pos e1] at this
  rw [if_pos e2]
  exact this
theorem g_skip {t : Nat} {op : Op} {j t' : Nat} {want b : Bool} (hj : (ops[j]?).bind (·.dst) = some t') (hs : S.get t' = some (.a (.v (.bool b)))) (hb : b = !want) (ht : Nat.blt t S.nt = true)
    (h : AWL P w0 C0 ops rest Q (S.put t (.a (.v undef)))) : AWL P w0 C0 ops (⟨some t, op, ty, pos, aft, some (j, want)⟩ :: rest) Q S := by
  rintro a w ⟨C, T, hs'⟩
  have hy := yielded_of hs' hj hs
  have e2 : Region.wanted (⟨some t, op, ty, pos, aft, some (j, want)⟩ : Oper) (yielded ops a.tmps) = false := by cases want <;> simp [Region.wanted, hy, hb]
  exact wpList_skip e2 (h _ _ ⟨C, T, hs'.put ht (srel_v _)⟩)
theorem g_skip0 {op : Op} {j t' : Nat} {want b : Bool} (hj : (ops[j]?).bind (·.dst) = some t') (hs : S.get t' = some (.a (.v (.bool b)))) (hb : b = !want)
    (h : AWL P w0 C0 ops rest Q S) : AWL P w0 C0 ops (⟨none, op, ty, pos, aft, some (j, want)⟩ :: rest) Q S := by
  rintro a w ⟨C, T, hs'⟩
  have hy := yielded_of hs' hj hs
  have e2 : Region.wanted (⟨none, op, ty, pos, aft, some (j, want)⟩ : Oper) (yielded ops a.tmps) = false := by cases want <;> simp [Region.wanted, hy, hb]
  exact wpList_skip e2 (h _ _ ⟨C, T, hs'⟩)

theorem g_skipU {t : Nat} {op : Op} {j t' : Nat} {want : Bool} (hj : (ops[j]?).bind (·.dst) = some t') (hs : S.get t' = some (.a (.v undef))) (ht : Nat.blt t S.nt = true)
    (h : AWL P w0 C0 ops rest Q (S.put t (.a (.v undef)))) : AWL P w0 C0 ops (⟨some t, op, ty, pos, aft, some (j, want)⟩ :: rest) Q S := by
  rintro a w ⟨C, T, hs'⟩
  have hv := hs'.slots _ _ hs
  have hv' : a.tmps.getD t' undef = undef := by generalize a.tmps.getD t' undef = u at hv; cases hv; rfl
  have e2 : Region.wanted (⟨some t, op, ty, pos, aft, some (j, want)⟩ : Oper) (yielded ops a.tmps) = false := by
    simp only [Region.wanted, yielded, hj]
    cases hc : a.tmps[t']? with
    | none => simp [hc]
    | some v =>
      have : v = undef := by rw [Array.getD_eq_getD_getElem?, hc] at hv'; simpa using hv'
      subst this; simp [hc, undef]
  exact wpList_skip e2 (h _ _ ⟨C, T, hs'.put ht (srel_v _)⟩)
theorem r_pickT {c x y : Operand} {b : Bool} {sv : SV} (hc : S.ev c = some (.a (.v (.bool b)))) (hb : b = true) (hx : S.ev x = some sv) (ht : Nat.blt t S.nt = true)
    (hr : AWL P w0 C0 ops rest Q (S.put t sv)) : AWL P w0 C0 ops (⟨some t, .pick c x y, ty, pos, aft, none⟩ :: rest) Q S :=
  r_pick hc (by rw [hb]; exact hx) ht hr
theorem r_pickF {c x y : Operand} {b : Bool} {sv : SV} (hc : S.ev c = some (.a (.v (.bool b)))) (hb : b = false) (hx : S.ev y = some sv) (ht : Nat.blt t S.nt = true)
    (hr : AWL P w0 C0 ops rest Q (S.put t sv)) : AWL P w0 C0 ops (⟨some t, .pick c x y, ty, pos, aft, none⟩ :: rest) Q S :=
  r_pick hc (by rw [hb]; exact hx) ht hr

theorem run_equalIn_b (w : World) (d : Nat) (t : TypeId) (a b : Bool) (h : P.underlying t = some .bool) : (Op.equalIn (d + 1) t (.bool a) (.bool b)).run P w = .ok (a == b) w := by
  simp [Op.equalIn, run_underlying h]
theorem run_eql_b (w : World) (t : TypeId) (a b : Bool) (h : P.underlying t = some .bool) : (binOp .eql t (.bool a) (.bool b)).run P w = .ok (.bool (a == b)) w := by
  simp only [binOp]
  simp [Op.equal, Op.maxDepth, run_equalIn_b w 9999 t a b h]
theorem run_neq_b (w : World) (t : TypeId) (a b : Bool) (h : P.underlying t = some .bool) : (binOp .neq t (.bool a) (.bool b)).run P w = .ok (.bool (!(a == b))) w := by
  simp only [binOp]
  simp [Op.equal, Op.maxDepth, run_equalIn_b w 9999 t a b h]
theorem eqGuard_b (op : BinOp) (t : TypeId) (p q : Operand) (a b : Bool) : eqGuard op t p q (.bool a) (.bool b) = pure () := by
  cases op <;> simp [eqGuard]
theorem r_beq {xt yt : TypeId} {x y : Operand} {b b' : Bool} (hx : S.ev x = some (.a (.v (.bool b)))) (hy : S.ev y = some (.a (.v (.bool b')))) (hu : P.underlying xt = some .bool) (ht : Nat.blt t S.nt = true)
    (hr : AWL P w0 C0 ops rest Q (S.put t (.a (.v (.bool (b == b')))))) : AWL P w0 C0 ops (⟨some t, .binOp .eql xt x y yt, ty, pos, aft, none⟩ :: rest) Q S :=
  awl_pure ht (fun C T a w hs => ⟨.bool (b == b'), by simp [execOp, hs.evv hx, hs.evv hy, eqGuard_b, run_eql_b _ _ _ _ hu], srel_v _⟩) hr
theorem r_bne {xt yt : TypeId} {x y : Operand} {b b' : Bool} (hx : S.ev x = some (.a (.v (.bool b)))) (hy : S.ev y = some (.a (.v (.bool b')))) (hu : P.underlying xt = some .bool) (ht : Nat.blt t S.nt = true)
    (hr : AWL P w0 C0 ops rest Q (S.put t (.a (.v (.bool (!(b == b'))))))) : AWL P w0 C0 ops (⟨some t, .binOp .neq xt x y yt, ty, pos, aft, none⟩ :: rest) Q S :=
  awl_pure ht (fun C T a w hs => ⟨.bool (!(b == b')), by simp [execOp, hs.evv hx, hs.evv hy, eqGuard_b, run_neq_b _ _ _ _ hu], srel_v _⟩) hr

theorem enters_of {f : FuncId} {fn : Func} (hf : P.funcs[f]? = some fn) (h1 : (fn.name == "runtime.NumGoroutine") = false) (h2 : fn.body.isNone = false) : entersT P f := by
  intro args w
  have h1' : ¬ fn.name = "runtime.NumGoroutine" := by simpa using h1
  have h2' : fn.body ≠ none := fun e => by rw [e] at h2; simp at h2
  simp [callFunc, program, Sem.run, hf, h1', h2']

/-! ### a box that no one writes any more -/
def Imp (w0 : Base) (C0 : CS) (S S' : AState) : Prop := ∀ a w, Sim w0 C0 S a w → Sim w0 C0 S' a w
theorem awl_imp {l : List Oper} (h : Imp w0 C0 S S') (hr : AWL P w0 C0 ops l Q S') : AWL P w0 C0 ops l Q S := fun a w hs => hr a w (h a w hs)
theorem awp_imp {c : Code} (h : Imp w0 C0 S S') (hr : AWP P w0 C0 c Q S') : AWP P w0 C0 c Q S := fun a w hs => hr a w (h a w hs)
theorem imp_commit (i t : Nat) {b o : Nat} {cs : List AV} (ht : S.get t = some (.a (.v (.pointer (some ⟨b, o, none⟩))))) (hi : S.objs[i]? = some ⟨b, true, .box cs⟩) (h1 : cs.all AV.one = true) (htn : Nat.blt t S.nt = true) :
    Imp w0 C0 S (AState.put ⟨S.nt, S.slots, S.objs.eraseIdx i⟩ t (.a (.cp (cs.drop o)))) := by
  rintro a w ⟨C, T, hs⟩
  have hm := mem_of_get hi
  obtain ⟨hob, hnone, hbase⟩ := hs.objs _ hm
  obtain ⟨arr, t0, g1, g2⟩ : ObjRel C b (.box cs) w := hob
  have hbase' : w0.ok b := hbase rfl
  have hnone' : ∀ o, C b o = none := hnone
  have hmono := CS.add_mono (C := C) (b := b) (o := 0) (vs := arr.toList) (fun j _ => hnone' _)
  have hne : ∀ e, e ∈ S.objs.eraseIdx i → e.b ≠ b := by
    intro e he heb
    obtain ⟨j, hj⟩ := List.getElem?_of_mem he
    rw [List.getElem?_eraseIdx] at hj
    have e1 := List.pairwise_iff_getElem.1 hs.apart
    have hlt : i < S.objs.length := (List.getElem?_eq_some_iff.1 hi).1
    have g1 : S.objs[i] = ⟨b, true, .box cs⟩ := (List.getElem?_eq_some_iff.1 hi).2
    split at hj
    · have hj' : j < S.objs.length := (List.getElem?_eq_some_iff.1 hj).1
      have g2 : S.objs[j] = e := (List.getElem?_eq_some_iff.1 hj).2
      have := e1 j i hj' hlt (by omega); rw [g1, g2] at this; exact this heb
    · have hj' : j + 1 < S.objs.length := (List.getElem?_eq_some_iff.1 hj).1
      have g2 : S.objs[j + 1] = e := (List.getElem?_eq_some_iff.1 hj).2
      have := e1 i (j + 1) hlt hj' (by omega); rw [g1, g2] at this; exact this heb.symm
  have hsub := List.eraseIdx_sublist (l := S.objs) (k := i)
  have hstep : SimC w0 C0 (C.add b 0 arr.toList) T ⟨S.nt, S.slots, S.objs.eraseIdx i⟩ a w := by
    refine hs.step (BelowX.refl _) (fun _ => Nat.le_refl _) (fun _ _ h => h) ?_ ?_ (fun b' o' hb' hn => CS.add_other (fun e => by subst e; rcases hbase' with h | h; omega; exact hn h)) ?_ (hs.apart.sublist hsub) ?_ hs.tokne (fun t x hx => ⟨x, hx, fun u r => SRel.mono hmono r⟩)
    · intro b' o' v hc
      rcases CS.add_cases hc with ⟨rfl, j, rfl, hj⟩ | hc'
      · rw [cell_of_row w b' _ arr t0 (0, 0) g1, Nat.zero_add]; simpa using hj
      · exact hs.com _ _ _ hc'
    · intro b' o' v hc
      rcases CS.add_cases hc with ⟨rfl, j, rfl, hj⟩ | hc'
      · exact g2.ones h1 v (List.mem_of_getElem? hj)
      · exact hs.one _ _ _ hc'
    · intro e he
      obtain ⟨k1, k2, k3⟩ := hs.objs e (hsub.mem he)
      exact ⟨k1.mono hmono rfl, fun o => by rw [CS.add_other (hne e he)]; exact k2 o, k3⟩
    · intro k j hk
      obtain ⟨k1, k2⟩ := hs.toks k j hk
      have hkb : j.b ≠ b := fun e => k2 _ hm e.symm
      exact ⟨k1.keep rfl (fun o => CS.add_other hkb), fun e he => k2 e (hsub.mem he)⟩
  have hv := hs.slots _ _ ht
  have hv' : a.tmps.getD t undef = .pointer (some ⟨b, o, none⟩) := by generalize a.tmps.getD t undef = u at hv; cases hv; rfl
  have hx : SRel (C.add b 0 arr.toList) T (.a (.cp (cs.drop o))) (.pointer (some ⟨b, o, none⟩)) := by
    refine rel_cp_mk (fun j c hj => ?_)
    rw [List.getElem?_drop] at hj
    obtain ⟨u, hu, hr⟩ := g2.get hj
    have := CS.add_at (C := C) (b := b) (o := 0) hu
    rw [Nat.zero_add] at this
    exact ⟨u, this, hr.mono hmono⟩
  have hp := hstep.put (x := .a (.cp (cs.drop o))) htn hx
  have hat : a.put (some t) (.pointer (some ⟨b, o, none⟩)) = a := by
    cases a with
    | mk tmps defers =>
      simp only [Act.put]
      congr 1
      apply Array.ext_getElem?
      intro j
      rw [Array.getElem?_setIfInBounds]
      by_cases htj : t = j
      · subst htj
        rw [if_pos rfl]
        split
        · rename_i hlt
          rw [← hv', Array.getD_eq_getD_getElem?, Array.getElem?_eq_getElem hlt]; simp
        · rename_i hlt
          rw [Array.getElem?_eq_none (by omega)]
      · rw [if_neg htj]
  rw [hat] at hp
  exact ⟨_, T, hp⟩

theorem g_cases {l : List Oper} {t' : Nat} {b : Bool} (h : S.get t' = some (.a (.v (.bool b)))) (hT : b = true → AWL P w0 C0 ops l Q S) (hF : b = false → AWL P w0 C0 ops l Q S) : AWL P w0 C0 ops l Q S := by
  cases b
  · exact hF rfl
  · exact hT rfl
theorem wrap_id {i : Int} (h : -9223372036854775808 ≤ i ∧ i ≤ 9223372036854775807) : IntKind.i64.wrap i = i := by
  simp [IntKind.wrap, IntKind.bits, IntKind.signed]; omega
theorem wrap_u64 {i : Int} (h : 0 ≤ i ∧ i ≤ 18446744073709551615) : IntKind.u64.wrap i = i := by
  simp [IntKind.wrap, IntKind.bits, IntKind.signed]; omega
theorem wrap_u8 {i : Int} (h : 0 ≤ i ∧ i ≤ 255) : IntKind.u8.wrap i = i := by
  simp [IntKind.wrap, IntKind.bits, IntKind.signed]; omega
theorem r_lenNil {x : Operand} {st e : TypeId} (hx : S.ev x = some (.a (.v (.slice none 0 0)))) (hst : sliceT P st = some e) (ht : Nat.blt t S.nt = true)
    (hr : AWL P w0 C0 ops rest Q (S.put t (.a (.v (.int .i64 0))))) : AWL P w0 C0 ops (⟨some t, .call ⟨.builtin .len, #[x], #[st]⟩, ty, pos, aft, none⟩ :: rest) Q S :=
  awl_pure ht (fun C T a w hs => ⟨.int .i64 0, by simp [execOp, resolve, invoke, builtin, Builtin.len_, hs.evv hx, Sem.run_bind, run_underlying (sliceT_un hst), goInt], srel_v _⟩) hr
theorem r_lenStr {x : Operand} {s : ByteArray} {st : TypeId} (hx : S.ev x = some (.a (.v (.string s)))) (hst : P.underlying st = some .string) (ht : Nat.blt t S.nt = true)
    (hr : AWL P w0 C0 ops rest Q (S.put t (.a (.v (.int .i64 s.size))))) : AWL P w0 C0 ops (⟨some t, .call ⟨.builtin .len, #[x], #[st]⟩, ty, pos, aft, none⟩ :: rest) Q S :=
  awl_pure ht (fun C T a w hs => ⟨.int .i64 s.size, by simp [execOp, resolve, invoke, builtin, Builtin.len_, hs.evv hx, Sem.run_bind, run_underlying hst, goInt], srel_v _⟩) hr
theorem get_map {α β : Type} {f : α → β} {l : List α} {i : Nat} {x : α} (h : l[i]? = some x) : (l.map f)[i]? = some (f x) := by simp [h]
theorem get_lt {α : Type} {l : List α} {i : Nat} (h : i < l.length) : ∃ x, l[i]? = some x := ⟨_, List.getElem?_eq_getElem h⟩
end Go.Proofs.Ytmbfmnhcahhciaa.A

/- The rules of a walk over abstract states: operations that leave the world alone. -/
import Derived.Test.YtmbfmnhcahhciaaA
namespace Go.Proofs.Ytmbfmnhcahhciaa.A
open Go Go.RowKit
set_option linter.unusedVariables false
set_option linter.unusedSimpArgs false
variable {P : Program} {w0 : Base} {C0 C : CS} {T : TS} {S S' : AState} {a : Act} {w : World} {ops : Array Oper} {rest : List Oper} {o : Oper} {Q : Exit → AState → Prop}

theorem getD_set (arr : Array Value) (t i : Nat) (v : Value) (ht : t < arr.size) : (arr.setIfInBounds t v).getD i undef = if t = i then v else arr.getD i undef := by
  by_cases h : t = i
  · subst h; simp [Array.getD, ht]
  · by_cases hi : i < arr.size
    · simp [Array.getD, hi, h]
    · simp [Array.getD, hi, h]

theorem SimC.put (h : SimC w0 C0 C T S a w) {t : Nat} {x : SV} {v : Value} (ht : Nat.blt t S.nt = true) (hx : SRel C T x v) :
    SimC w0 C0 C T (S.put t x) (a.put (some t) v) w where
  below := h.below
  com := h.com
  one := h.one
  old := h.old
  objs := h.objs
  apart := h.apart
  toks := h.toks
  tokne := h.tokne
  size := by simp [Act.put, AState.put, h.size]
  slots := by
    intro i y hi
    have ht' : t < a.tmps.size := by rw [h.size]; exact Nat.le_of_ble_eq_true ht
    simp only [AState.get, AState.put, find_cons] at hi
    simp only [Act.put]
    rw [getD_set _ _ _ _ ht']
    split at hi
    · cases hi; rename_i e; simp [e, hx]
    · rename_i e; rw [if_neg e]; exact h.slots i y hi
  defers := h.defers
  dr := h.dr

/-- what an operand is -/
def AState.ev (S : AState) : Operand → Option SV
  | .tmp t => S.get t
  | .const v => some (.a (.v v))
  | .global g => some (.a (.v (.pointer (some ⟨g, 0, none⟩))))
  | .func f => some (.a (.fn f []))

theorem SimC.ev (h : SimC w0 C0 C T S a w) {x : Operand} {sv : SV} (hx : S.ev x = some sv) : SRel C T sv (a.eval x) := by
  cases x with
  | tmp t => exact h.slots t sv hx
  | const v => cases hx; exact Rel.v v
  | global g => cases hx; exact Rel.v _
  | func f => cases hx; exact rel_fn.2 (Rels.nil)

theorem SimC.evv (h : SimC w0 C0 C T S a w) {x : Operand} {v : Value} (hx : S.ev x = some (.a (.v v))) : a.eval x = v := by
  have := h.ev hx; cases this; rfl

theorem srel_v (x : Value) : SRel C T (.a (.v x)) x := Rel.v x

theorem awl_nil (h : Q .normal S) : AWL P w0 C0 ops [] Q S := fun _ _ hs => wpList_nil ⟨S, hs, h⟩

theorem awl_op (hg : o.guard = none)
    (h : ∀ C T a w, SimC w0 C0 C T S a w → ∃ v w' C' T', (execOp a.eval o).run P w = .ok (.value v) w' ∧ SimC w0 C0 C' T' S' (a.put o.dst v) w')
    (hr : AWL P w0 C0 ops rest Q S') : AWL P w0 C0 ops (o :: rest) Q S := by
  rintro a w ⟨C, T, hs⟩
  obtain ⟨v, w', C', T', hrun, hs'⟩ := h C T a w hs
  refine wpList_plain hg (fun K hK => ?_)
  unfold Oper.wp
  rw [hrun]
  exact hK _ _ (hr _ _ ⟨C', T', hs'⟩)

theorem awl_opu (hg : o.guard = none) (hd : o.dst = none)
    (h : ∀ C T a w, SimC w0 C0 C T S a w → ∃ w' C' T', (execOp a.eval o).run P w = .ok .skip w' ∧ SimC w0 C0 C' T' S' a w')
    (hr : AWL P w0 C0 ops rest Q S') : AWL P w0 C0 ops (o :: rest) Q S := by
  rintro a w ⟨C, T, hs⟩
  obtain ⟨w', C', T', hrun, hs'⟩ := h C T a w hs
  refine wpList_plain hg (fun K hK => ?_)
  unfold Oper.wp
  rw [hrun]
  have : a.put o.dst undef = a := by rw [hd]; rfl
  exact hK _ _ (by rw [this]; exact hr _ _ ⟨C', T', hs'⟩)

/-- an operation that only computes -/
theorem awl_pure {op : Op} {t : Nat} {ty : TypeId} {pos : String} {aft : Array Edge} {sv : SV} (ht : Nat.blt t S.nt = true)
    (h : ∀ C T a w, SimC w0 C0 C T S a w → ∃ v, (execOp a.eval ⟨some t, op, ty, pos, aft, none⟩).run P w = .ok (.value v) w ∧ SRel C T sv v)
    (hr : AWL P w0 C0 ops rest Q (S.put t sv)) : AWL P w0 C0 ops (⟨some t, op, ty, pos, aft, none⟩ :: rest) Q S :=
  awl_op rfl (fun C T a w hs => let ⟨v, hrun, hx⟩ := h C T a w hs; ⟨v, w, C, T, hrun, hs.put ht hx⟩) hr

section
variable {t : Nat} {ty : TypeId} {pos : String} {aft : Array Edge}

theorem r_move {x : Operand} {sv : SV} (hx : S.ev x = some sv) (ht : Nat.blt t S.nt = true) (hr : AWL P w0 C0 ops rest Q (S.put t sv)) :
    AWL P w0 C0 ops (⟨some t, .move x, ty, pos, aft, none⟩ :: rest) Q S :=
  awl_pure ht (fun C T a w hs => ⟨a.eval x, rfl, hs.ev hx⟩) hr
theorem r_assign {x : Operand} {sv : SV} (hx : S.ev x = some sv) (ht : Nat.blt t S.nt = true) (hr : AWL P w0 C0 ops rest Q (S.put t sv)) :
    AWL P w0 C0 ops (⟨some t, .assign x, ty, pos, aft, none⟩ :: rest) Q S :=
  awl_pure ht (fun C T a w hs => ⟨a.eval x, rfl, hs.ev hx⟩) hr

theorem r_pick {c x y : Operand} {b : Bool} {sv : SV} (hc : S.ev c = some (.a (.v (.bool b)))) (hx : S.ev (if b then x else y) = some sv) (ht : Nat.blt t S.nt = true)
    (hr : AWL P w0 C0 ops rest Q (S.put t sv)) : AWL P w0 C0 ops (⟨some t, .pick c x y, ty, pos, aft, none⟩ :: rest) Q S :=
  awl_pure ht (fun C T a w hs => ⟨a.eval (if b then x else y), by cases b <;> simp [execOp, hs.evv hc, asBool], hs.ev hx⟩) hr

theorem r_not {x : Operand} {b : Bool} {xt : TypeId} (hx : S.ev x = some (.a (.v (.bool b)))) (ht : Nat.blt t S.nt = true) (hr : AWL P w0 C0 ops rest Q (S.put t (.a (.v (.bool !b))))) :
    AWL P w0 C0 ops (⟨some t, .unOp .not xt x, ty, pos, aft, none⟩ :: rest) Q S :=
  awl_pure ht (fun C T a w hs => ⟨.bool !b, by simp [execOp, hs.evv hx, Op.unary], srel_v _⟩) hr

/-- what a comparison of numbers tells -/
def cmpB : BinOp → Int → Int → Option Bool
  | .eql, i, j => some (i == j)
  | .neq, i, j => some (i != j)
  | .lss, i, j => some (decide (i < j))
  | .leq, i, j => some (decide (i ≤ j))
  | .gtr, i, j => some (decide (j < i))
  | .geq, i, j => some (decide (j ≤ i))
  | _, _, _ => none
theorem r_cmp {op : BinOp} {xt yt : TypeId} {x y : Operand} {k : IntKind} {i j : Int} {b : Bool} (hx : S.ev x = some (.a (.v (.int k i)))) (hy : S.ev y = some (.a (.v (.int k j))))
    (hb : cmpB op i j = some b) (ht : Nat.blt t S.nt = true) (hr : AWL P w0 C0 ops rest Q (S.put t (.a (.v (.bool b))))) :
    AWL P w0 C0 ops (⟨some t, .binOp op xt x y yt, ty, pos, aft, none⟩ :: rest) Q S :=
  awl_pure ht (fun C T a w hs => ⟨.bool b, by
    simp only [execOp, hs.evv hx, hs.evv hy]
    cases op <;> simp [cmpB] at hb <;> subst hb <;> simp [eqGuard, binOp, Op.intCmp], srel_v _⟩) hr

/-- what arithmetic gives -/
def ariI : BinOp → IntKind → Int → Int → Option Int
  | .add, k, i, j => some (k.wrap (i + j))
  | .sub, k, i, j => some (k.wrap (i - j))
  | .mul, k, i, j => some (k.wrap (i * j))
  | _, _, _, _ => none
theorem r_ari {op : BinOp} {xt yt : TypeId} {x y : Operand} {k : IntKind} {i j n : Int} (m : Int) (hx : S.ev x = some (.a (.v (.int k i)))) (hy : S.ev y = some (.a (.v (.int k j))))
    (hb : ariI op k i j = some n) (hm : n = m) (ht : Nat.blt t S.nt = true) (hr : AWL P w0 C0 ops rest Q (S.put t (.a (.v (.int k m))))) :
    AWL P w0 C0 ops (⟨some t, .binOp op xt x y yt, ty, pos, aft, none⟩ :: rest) Q S :=
  awl_pure ht (fun C T a w hs => ⟨.int k m, by
    simp only [execOp, hs.evv hx, hs.evv hy]
    cases op <;> simp [ariI] at hb <;> subst hm <;> subst hb <;> simp [eqGuard, binOp, Op.intArith], srel_v _⟩) hr

/-- division and remainder by what isn't 0 -/
def divI : BinOp → IntKind → Int → Int → Option Int
  | .quo, k, i, j => if j = 0 then none else some (k.wrap (i.tdiv j))
  | .rem, _, i, j => if j = 0 then none else some (i.tmod j)
  | _, _, _, _ => none
theorem r_div {op : BinOp} {xt yt : TypeId} {x y : Operand} {k : IntKind} {i j n : Int} (m : Int) (hx : S.ev x = some (.a (.v (.int k i)))) (hy : S.ev y = some (.a (.v (.int k j))))
    (hb : divI op k i j = some n) (hm : n = m) (ht : Nat.blt t S.nt = true) (hr : AWL P w0 C0 ops rest Q (S.put t (.a (.v (.int k m))))) :
    AWL P w0 C0 ops (⟨some t, .binOp op xt x y yt, ty, pos, aft, none⟩ :: rest) Q S :=
  awl_pure ht (fun C T a w hs => ⟨.int k m, by
    simp only [execOp, hs.evv hx, hs.evv hy]
    cases op <;> simp [divI] at hb <;> subst hm <;> obtain ⟨h0, rfl⟩ := hb <;> simp [eqGuard, binOp, Op.intDiv, h0], srel_v _⟩) hr

/-- shifts by what isn't below 0 -/
def shI : BinOp → IntKind → Int → Int → Option Int
  | .shl, k, i, j => if j < 0 then none else some (k.wrap (i * 2 ^ (min j.toNat k.bits)))
  | .shr, k, i, j => if j < 0 then none else some (i.fdiv (2 ^ (min j.toNat k.bits)))
  | _, _, _, _ => none
theorem r_sh {op : BinOp} {xt yt : TypeId} {x y : Operand} {k k' : IntKind} {i j n : Int} (m : Int) (hx : S.ev x = some (.a (.v (.int k i)))) (hy : S.ev y = some (.a (.v (.int k' j))))
    (hb : shI op k i j = some n) (hm : n = m) (ht : Nat.blt t S.nt = true) (hr : AWL P w0 C0 ops rest Q (S.put t (.a (.v (.int k m))))) :
    AWL P w0 C0 ops (⟨some t, .binOp op xt x y yt, ty, pos, aft, none⟩ :: rest) Q S :=
  awl_pure ht (fun C T a w hs => ⟨.int k m, by
    simp only [execOp, hs.evv hx, hs.evv hy]
    cases op <;> simp [shI] at hb <;> subst hm <;> obtain ⟨h0, rfl⟩ := hb <;> simp [eqGuard, binOp, Op.shift, Int.not_lt.2 h0], srel_v _⟩) hr

/-- comparisons of strings -/
def strB : BinOp → ByteArray → ByteArray → Option Bool
  | .eql, i, j => some (i.toList == j.toList)
  | .neq, i, j => some (i.toList != j.toList)
  | .lss, i, j => some (Op.bytesLess i.toList j.toList)
  | .leq, i, j => some (Op.bytesLess i.toList j.toList || i.toList == j.toList)
  | .gtr, i, j => some !(Op.bytesLess i.toList j.toList || i.toList == j.toList)
  | .geq, i, j => some !(Op.bytesLess i.toList j.toList)
  | _, _, _ => none
theorem r_str {op : BinOp} {xt yt : TypeId} {x y : Operand} {i j : ByteArray} {b : Bool} (hx : S.ev x = some (.a (.v (.string i)))) (hy : S.ev y = some (.a (.v (.string j))))
    (hb : strB op i j = some b) (ht : Nat.blt t S.nt = true) (hr : AWL P w0 C0 ops rest Q (S.put t (.a (.v (.bool b))))) :
    AWL P w0 C0 ops (⟨some t, .binOp op xt x y yt, ty, pos, aft, none⟩ :: rest) Q S :=
  awl_pure ht (fun C T a w hs => ⟨.bool b, by
    simp only [execOp, hs.evv hx, hs.evv hy]
    cases op <;> simp only [strB, Option.some.injEq, reduceCtorEq] at hb <;> subst hb <;> simp [eqGuard, binOp, Op.stringOp, bne], srel_v _⟩) hr

theorem r_conv {src dst : TypeId} {x : Operand} {k k' : IntKind} {i : Int} (m : Int) {d : TypeDesc} (hx : S.ev x = some (.a (.v (.int k' i)))) (hs' : P.underlying src = some d) (hd : P.underlying dst = some (.int k)) (hm : k.wrap i = m)
    (ht : Nat.blt t S.nt = true) (hr : AWL P w0 C0 ops rest Q (S.put t (.a (.v (.int k m))))) :
    AWL P w0 C0 ops (⟨some t, .convert src dst x, ty, pos, aft, none⟩ :: rest) Q S :=
  awl_pure ht (fun C T a w hs => ⟨.int k m, by
    subst hm
    simp [execOp, hs.evv hx, convert, Sem.run_bind, run_underlying hs', run_underlying hd, Conv.intToInt], srel_v _⟩) hr

theorem r_extract {x : Operand} {vs : List AV} {n : Nat} {c : AV} (hx : S.ev x = some (.a (.tup vs))) (hn : vs[n]? = some c) (ht : Nat.blt t S.nt = true)
    (hr : AWL P w0 C0 ops rest Q (S.put t (.a c))) : AWL P w0 C0 ops (⟨some t, .extract x n, ty, pos, aft, none⟩ :: rest) Q S :=
  awl_pure ht (fun C T a w hs => by
    have h := hs.ev hx
    generalize hv : a.eval x = u at h
    cases h with
    | tup u hn' hC hR => exact ⟨u n, by simp [execOp, hv, Instr.extract, hC n c hn], hR n c hn⟩) hr

/-- a function against nil -/
theorem run_equalIn_fn (w : World) (d : Nat) (t : TypeId) {A B : Array TypeId} {vr : Bool} (f : Fn) (x y : Array Value) (h : P.underlying t = some (.func A B vr)) :
    (Op.equalIn (d + 1) t (.func f x y) .nilFunc).run P w = .ok false w := by
  simp [Op.equalIn, Sem.run_bind, run_underlying h]
theorem run_equalIn_nofn (w : World) (d : Nat) (t : TypeId) {A B : Array TypeId} {vr : Bool} (h : P.underlying t = some (.func A B vr)) :
    (Op.equalIn (d + 1) t .nilFunc .nilFunc).run P w = .ok true w := by
  simp [Op.equalIn, Sem.run_bind, run_underlying h]
theorem run_eql_fn (w : World) (t : TypeId) {A B : Array TypeId} {vr : Bool} (f : Fn) (x y : Array Value) (h : P.underlying t = some (.func A B vr)) :
    (binOp .eql t (.func f x y) .nilFunc).run P w = .ok (.bool false) w := by
  simp only [binOp]
  simp [Op.equal, Op.maxDepth, run_equalIn_fn w 9999 t f x y h]
theorem run_neq_fn (w : World) (t : TypeId) {A B : Array TypeId} {vr : Bool} (f : Fn) (x y : Array Value) (h : P.underlying t = some (.func A B vr)) :
    (binOp .neq t (.func f x y) .nilFunc).run P w = .ok (.bool true) w := by
  simp only [binOp]
  simp [Op.equal, Op.maxDepth, run_equalIn_fn w 9999 t f x y h]
theorem run_eql_nofn (w : World) (t : TypeId) {A B : Array TypeId} {vr : Bool} (h : P.underlying t = some (.func A B vr)) :
    (binOp .eql t .nilFunc .nilFunc).run P w = .ok (.bool true) w := by
  simp only [binOp]
  simp [Op.equal, Op.maxDepth, run_equalIn_nofn w 9999 t h]
theorem run_neq_nofn (w : World) (t : TypeId) {A B : Array TypeId} {vr : Bool} (h : P.underlying t = some (.func A B vr)) :
    (binOp .neq t .nilFunc .nilFunc).run P w = .ok (.bool false) w := by
  simp only [binOp]
  simp [Op.equal, Op.maxDepth, run_equalIn_nofn w 9999 t h]
theorem eqGuard_fn (op : BinOp) (t : TypeId) (p q : Operand) (f : Fn) (x y : Array Value) : eqGuard op t p q (.func f x y) .nilFunc = pure () := by
  cases op <;> simp [eqGuard]
theorem eqGuard_nofn (op : BinOp) (t : TypeId) (p q : Operand) : eqGuard op t p q .nilFunc .nilFunc = pure () := by
  cases op <;> simp [eqGuard]

theorem r_fn_eq {xt yt : TypeId} {x : Operand} {f : FuncId} {caps : List AV} {A B : Array TypeId} {vr : Bool} (hx : S.ev x = some (.a (.fn f caps))) (hu : P.underlying xt = some (.func A B vr))
    (ht : Nat.blt t S.nt = true) (hr : AWL P w0 C0 ops rest Q (S.put t (.a (.v (.bool false))))) :
    AWL P w0 C0 ops (⟨some t, .binOp .eql xt x (.const .nilFunc) yt, ty, pos, aft, none⟩ :: rest) Q S :=
  awl_pure ht (fun C T a w hs => by
    have h := hs.ev hx
    generalize hv : a.eval x = u at h
    cases h with
    | fn u hn' hC hR => exact ⟨.bool false, by simp [execOp, hv, show a.eval (.const .nilFunc) = .nilFunc from rfl, eqGuard_fn, run_eql_fn _ _ _ _ _ hu, run_neq_fn _ _ _ _ _ hu], srel_v _⟩) hr
theorem r_fn_ne {xt yt : TypeId} {x : Operand} {f : FuncId} {caps : List AV} {A B : Array TypeId} {vr : Bool} (hx : S.ev x = some (.a (.fn f caps))) (hu : P.underlying xt = some (.func A B vr))
    (ht : Nat.blt t S.nt = true) (hr : AWL P w0 C0 ops rest Q (S.put t (.a (.v (.bool true))))) :
    AWL P w0 C0 ops (⟨some t, .binOp .neq xt x (.const .nilFunc) yt, ty, pos, aft, none⟩ :: rest) Q S :=
  awl_pure ht (fun C T a w hs => by
    have h := hs.ev hx
    generalize hv : a.eval x = u at h
    cases h with
    | fn u hn' hC hR => exact ⟨.bool true, by simp [execOp, hv, show a.eval (.const .nilFunc) = .nilFunc from rfl, eqGuard_fn, run_eql_fn _ _ _ _ _ hu, run_neq_fn _ _ _ _ _ hu], srel_v _⟩) hr
theorem r_nofn_eq {xt yt : TypeId} {x : Operand} {A B : Array TypeId} {vr : Bool} (hx : S.ev x = some (.a (.v .nilFunc))) (hu : P.underlying xt = some (.func A B vr))
    (ht : Nat.blt t S.nt = true) (hr : AWL P w0 C0 ops rest Q (S.put t (.a (.v (.bool true))))) :
    AWL P w0 C0 ops (⟨some t, .binOp .eql xt x (.const .nilFunc) yt, ty, pos, aft, none⟩ :: rest) Q S :=
  awl_pure ht (fun C T a w hs => ⟨.bool true, by simp [execOp, hs.evv hx, show a.eval (.const .nilFunc) = .nilFunc from rfl, eqGuard_nofn, run_eql_nofn _ _ hu, run_neq_nofn _ _ hu], srel_v _⟩) hr
theorem r_nofn_ne {xt yt : TypeId} {x : Operand} {A B : Array TypeId} {vr : Bool} (hx : S.ev x = some (.a (.v .nilFunc))) (hu : P.underlying xt = some (.func A B vr))
    (ht : Nat.blt t S.nt = true) (hr : AWL P w0 C0 ops rest Q (S.put t (.a (.v (.bool false))))) :
    AWL P w0 C0 ops (⟨some t, .binOp .neq xt x (.const .nilFunc) yt, ty, pos, aft, none⟩ :: rest) Q S :=
  awl_pure ht (fun C T a w hs => ⟨.bool false, by simp [execOp, hs.evv hx, show a.eval (.const .nilFunc) = .nilFunc from rfl, eqGuard_nofn, run_eql_nofn _ _ hu, run_neq_nofn _ _ hu], srel_v _⟩) hr
end
end Go.Proofs.Ytmbfmnhcahhciaa.A

/- The rules of a walk over abstract states: structs of integers side by side. -/
import Derived.Test.YtmbfmnhcahhciaaV
namespace Go.Proofs.Ytmbfmnhcahhciaa.A
open Go Go.RowKit
set_option linter.unusedVariables false
set_option linter.unusedSimpArgs false
set_option linter.unusedSectionVars false
variable {P : Program} {w0 : Base} {C0 C : CS} {T : TS} {S S' : AState} {a : Act} {w : World} {ops : Array Oper} {rest : List Oper} {o : Oper} {Q : Exit → AState → Prop}
variable {t : Nat} {ty ty' : TypeId} {pos : String} {aft : Array Edge}

def mixFields (P : Program) : Nat → List Field → List IntKind → Bool
  | _, [], [] => true
  | i, f :: fs, q :: qs => decide (f.name ≠ "_") && Nat.beq f.offset i && notAgg P f.type && isIntT P f.type q && mixFields P (i + 1) fs qs
  | _, _, _ => false
def mixV : List IntKind → List Int → List Value
  | q :: qs, n :: ns => .int q n :: mixV qs ns
  | _, _ => []
theorem mixV_get : ∀ (qs : List IntKind) (us : List Int) (j : Nat) (n : Int) (q : IntKind), us[j]? = some n → qs[j]? = some q → (mixV qs us)[j]? = some (.int q n)
  | [], _, j, n, q, _, h => by simp at h
  | _ :: _, [], j, n, q, h, _ => by simp at h
  | q0 :: qs, u :: us, 0, n, q, h1, h2 => by simp at h1 h2; subst h1 h2; simp [mixV]
  | q0 :: qs, u :: us, j + 1, n, q, h1, h2 => by simpa [mixV] using mixV_get qs us j n q (by simpa using h1) (by simpa using h2)
theorem eqFields_mix (d : Nat) (w : World) : ∀ (fs : List Field) (qs : List IntKind) (i : Nat) (us vs : List Int) (xs ys : Array Value), mixFields P i fs qs = true → us.length = qs.length → vs.length = qs.length →
    (∀ (j : Nat) (n : Int) (q : IntKind), us[j]? = some n → qs[j]? = some q → xs[i + j]? = some (.int q n)) → (∀ (j : Nat) (n : Int) (q : IntKind), vs[j]? = some n → qs[j]? = some q → ys[i + j]? = some (.int q n)) → (Op.eqFields (d + 1) xs ys fs).run P w = .ok (decide (us = vs)) w
  | [], [], i, us, vs, xs, ys, _, h1, h2, _, _ => by
    have e1 : us = [] := List.eq_nil_of_length_eq_zero h1
    have e2 : vs = [] := List.eq_nil_of_length_eq_zero h2
    subst e1 e2; simp [Op.eqFields]
  | [], _ :: _, _, _, _, _, _, h, _, _, _, _ => by simp [mixFields] at h
  | _ :: _, [], _, _, _, _, _, h, _, _, _, _ => by simp [mixFields] at h
  | f :: fs, q :: qs, i, [], _, _, _, _, h1, _, _, _ => by simp at h1
  | f :: fs, q :: qs, i, _ :: _, [], _, _, _, _, h2, _, _ => by simp at h2
  | f :: fs, q :: qs, i, x :: us, y :: vs, xs, ys, hf, h1, h2, hx, hy => by
    simp only [mixFields, Bool.and_eq_true, decide_eq_true_eq] at hf
    obtain ⟨⟨⟨⟨f1, f2⟩, f3⟩, f4⟩, f5⟩ := hf
    replace f3 := notAgg_eq f3
    replace f4 := isIntT_un f4
    have f2' := Nat.eq_of_beq_eq_true f2
    have ih := eqFields_mix d w fs qs (i + 1) us vs xs ys f5 (by simpa using h1) (by simpa using h2) (fun j n q hj hq => by have := hx (j + 1) n q (by simpa using hj) (by simpa using hq); rwa [show i + (j + 1) = i + 1 + j from by omega] at this) (fun j n q hj hq => by have := hy (j + 1) n q (by simpa using hj) (by simpa using hq); rwa [show i + (j + 1) = i + 1 + j from by omega] at this)
    have px := run_part1 f3 (hx 0 x q rfl rfl) w
    have py := run_part1 f3 (hy 0 y q rfl rfl) w
    simp only [Nat.add_zero] at px py
    simp only [Op.eqFields, f1, if_true, f2', Sem.run_bind, px, py, Result.andThen, ne_eq, not_false_eq_true, run_equalIn_int w d _ q q x y f4, Sem.run_ite, ih]
    by_cases hxy : x = y
    · subst hxy; simp
    · simp [hxy]
structure MixT (P : Program) (xt : TypeId) (qs : List IntKind) : Prop where
  str : P.underlying xt = some (.struct (P.fieldsOf xt))
  held : P.stoodInHeld xt = false
  flds : mixFields P 0 (P.fieldsOf xt).toList qs = true
  guard : P.eqGuardType P.depth xt = false
theorem run_seq {xt : TypeId} {qs : List IntKind} (h : MixT P xt qs) {us vs : List Int} (h1 : us.length = qs.length) (h2 : vs.length = qs.length) (w : World) :
    (Op.equalIn 10000 xt (.agg (mixV qs us).toArray) (.agg (mixV qs vs).toArray)).run P w = .ok (decide (us = vs)) w := by
  rw [show (10000 : Nat) = 9999 + 1 from rfl, run_equalIn_struct w 9999 xt _ _ h.str h.held]
  exact eqFields_mix (P := P) 9998 w (P.fieldsOf xt).toList qs 0 us vs _ _ h.flds h1 h2 (fun j n q h1 h2 => by simpa using mixV_get qs us j n q h1 h2) (fun j n q h1 h2 => by simpa using mixV_get qs vs j n q h1 h2)
theorem r_seq {x y : Operand} {sx sy : SV} {xt yt : TypeId} {qs : List IntKind} {us vs : List Int} (hx : S.ev x = some sx) (hy : S.ev y = some sy) (h : MixT P xt qs) (hxv : IsVal sx.av (.agg (mixV qs us).toArray)) (hyv : IsVal sy.av (.agg (mixV qs vs).toArray)) (h1 : us.length = qs.length) (h2 : vs.length = qs.length) (ht : Nat.blt t S.nt = true)
    (hr : AWL P w0 C0 ops rest Q (S.put t (.a (.v (.bool (decide (us = vs))))))) : AWL P w0 C0 ops (⟨some t, .binOp .eql xt x y yt, ty, pos, aft, none⟩ :: rest) Q S :=
  awl_pure ht (fun C T a w hs => ⟨.bool (decide (us = vs)), by
    have hg := run_eqGuard_agg (P := P) w .eql xt x y (mixV qs us).toArray (mixV qs vs).toArray h.guard
    simp only [execOp, (hxv C _).1 (hs.ev hx).av, (hyv C _).1 (hs.ev hy).av, Sem.run_bind, hg, Result.andThen, run_eql_struct, run_seq h h1 h2, Sem.run_pure], srel_v _⟩) hr
theorem r_sne {x y : Operand} {sx sy : SV} {xt yt : TypeId} {qs : List IntKind} {us vs : List Int} (hx : S.ev x = some sx) (hy : S.ev y = some sy) (h : MixT P xt qs) (hxv : IsVal sx.av (.agg (mixV qs us).toArray)) (hyv : IsVal sy.av (.agg (mixV qs vs).toArray)) (h1 : us.length = qs.length) (h2 : vs.length = qs.length) (ht : Nat.blt t S.nt = true)
    (hr : AWL P w0 C0 ops rest Q (S.put t (.a (.v (.bool (!decide (us = vs))))))) : AWL P w0 C0 ops (⟨some t, .binOp .neq xt x y yt, ty, pos, aft, none⟩ :: rest) Q S :=
  awl_pure ht (fun C T a w hs => ⟨.bool (!decide (us = vs)), by
    have hg := run_eqGuard_agg (P := P) w .neq xt x y (mixV qs us).toArray (mixV qs vs).toArray h.guard
    simp only [execOp, (hxv C _).1 (hs.ev hx).av, (hyv C _).1 (hs.ev hy).av, Sem.run_bind, hg, Result.andThen, run_neq_struct, run_seq h h1 h2, Sem.run_pure], srel_v _⟩) hr
/-- a list of cells with values alone -/
theorem isVal_cells {cs : List AV} {vs : List Value} (h : cs = vs.map .v) : IsVal (.agg cs) (.agg vs.toArray) := by subst h; exact isVal_agg (areVals_v vs)

/-! ### a function's value that is handed on: nil, or a pure test of two numbers -/
inductive Told (P : Program) : AV → (Int → Int → Bool) → Prop where
  | nil : Told P (.v .nilFunc) (fun _ _ => false)
  | fn {f : FuncId} {caps : List AV} {told : Int → Int → Bool} (hen : entersT P f) (h : ∀ a b, 0 ≤ a → 0 ≤ b → AC P f ([.v (.int .u64 a), .v (.int .u64 b)] ++ caps) [] (fun r n => n = [] ∧ r = .v (.bool (told a b)))) : Told P (.fn f caps) told
theorem SV.le.ownEq {tok sz : Nat} {l l' : List (List AV)} (h : l = l') : SV.le (.own tok sz l) (.a (.sl sz l')) := h ▸ .ownSl tok sz l
theorem SV.le.avEq {x y : AV} (h : x = y) : SV.le (.a x) (.a y) := h ▸ .refl _
theorem imp_le (t : Nat) {y x : SV} (hy : S.get t = some y) (h : SV.le y x) : Imp w0 C0 S (S.put t x) := by
  rintro a w ⟨C, T, hs⟩
  refine ⟨C, T, hs.below, hs.com, hs.one, hs.old, hs.objs, hs.apart, hs.toks, hs.tokne, hs.size, fun t' z hz => ?_, hs.defers, hs.dr⟩
  simp only [AState.get, AState.put, find_cons] at hz
  split at hz
  · rename_i e; subst e; cases hz; exact h.rel (hs.slots _ _ hy)
  · exact hs.slots _ _ hz
theorem wrapU_id {n : Int} (h : 0 ≤ n ∧ n < 18446744073709551616) : IntKind.u64.wrap n = n := by
  simp [IntKind.wrap, IntKind.signed, IntKind.bits]; omega
theorem rem_some {k : IntKind} {i j : Int} (h : j ≠ 0) : divI .rem k i j = some (i.tmod j) := if_neg h
theorem quo_some {k : IntKind} {i j : Int} (h : j ≠ 0) : divI .quo k i j = some (k.wrap (i.tdiv j)) := if_neg h
theorem shr_some {k : IntKind} {i j : Int} (h : ¬ j < 0) : shI .shr k i j = some (i.fdiv (2 ^ (min j.toNat k.bits))) := if_neg h
theorem shl_some {k : IntKind} {i j : Int} (h : ¬ j < 0) : shI .shl k i j = some (k.wrap (i * 2 ^ (min j.toNat k.bits))) := if_neg h
end Go.Proofs.Ytmbfmnhcahhciaa.A

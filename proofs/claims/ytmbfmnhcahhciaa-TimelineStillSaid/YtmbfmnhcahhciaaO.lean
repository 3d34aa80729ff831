/- The rules of a walk over abstract states: results that lie in boxes. -/
import Derived.Test.YtmbfmnhcahhciaaN
namespace Go.Proofs.Ytmbfmnhcahhciaa.A
open Go Go.RowKit
set_option linter.unusedVariables false
set_option linter.unusedSimpArgs false
set_option linter.unusedSectionVars false
variable {P : Program} {w0 : Base} {C0 C : CS} {T : TS} {S S' : AState} {a : Act} {w : World} {ops : Array Oper} {rest : List Oper} {o : Oper} {Q : Exit → AState → Prop}

/-- one result in a box, of a struct's kind -/
structure BoxR (P : Program) (p ty : Nat) (S : AState) (r : AV) : Prop where
  ex : ∃ (b i : Nat) (rw' : Bool) (cs : List AV), S.get p = some (.a (.v (.pointer (some ⟨b, 0, none⟩)))) ∧ S.objs[i]? = some ⟨b, rw', .box cs⟩ ∧ aggT P ty = some true ∧ szT P ty = some cs.length ∧ r = .agg cs
theorem BoxR.mk' {p ty b : Nat} (i : Nat) {rw' : Bool} {cs : List AV} (hp : S.get p = some (.a (.v (.pointer (some ⟨b, 0, none⟩))))) (hi : S.objs[i]? = some ⟨b, rw', .box cs⟩) (hA : aggT P ty = some true) {n : Nat} (hn : szT P ty = some n) (hl : Nat.beq n cs.length = true) : BoxR P p ty S (.agg cs) :=
  ⟨b, i, rw', cs, hp, hi, hA, by rw [hn, Nat.eq_of_beq_eq_true hl], rfl⟩
theorem BoxR.run {p ty : Nat} {r : AV} (hs : SimC w0 C0 C T S a w) (h : BoxR P p ty S r) : ∃ ad v, (asAddr (a.tmps.getD p undef)).run P w = .ok ad w ∧ (loadVar ty ad).run P w = .ok v w ∧ Rel C r v := by
  obtain ⟨b, i, rw', cs, hp, hi, hA, hn, rfl⟩ := h.ex
  have hv := hs.slots _ _ hp
  have hv' : a.tmps.getD p undef = .pointer (some ⟨b, 0, none⟩) := by generalize a.tmps.getD p undef = u at hv; cases hv; rfl
  obtain ⟨arr0, g1, g2⟩ := box_cells (hs.objs _ (mem_of_get hi)).1
  have hl : arr0.length = cs.length := g1.1
  refine ⟨⟨b, 0, none⟩, .agg arr0.toArray, by rw [hv']; simp [asAddr], ?_, rel_agg.2 (by simpa using g1)⟩
  have := run_loadVarA (P := P) (w := w) (b := b) (o := 0) hA hn hl (fun j u hj => by rw [Nat.zero_add]; exact g2 j u hj)
  simpa using this
def ResBT (P : Program) (p ty t : Nat) (S : AState) (r : AV) : Prop := ∃ c c', BoxR P p ty S c ∧ Res S t c' ∧ r = .tup [c, c']
theorem resBT_run {fn : Func} {p ty t : Nat} (hr : fn.results = #[.cell p ty, .tmp t]) : ∀ (w0 : Base) (C0 C : CS) (T : TS) (S : AState) (a : Act) (w : World) (r : AV), SimC w0 C0 C T S a w → ResBT P p ty t S r → ∃ v, (results fn a.tmps).run P w = .ok v w ∧ Rel C r v := by
  rintro w0 C0 C T S a w r hs ⟨c, c', h1, h2, rfl⟩
  obtain ⟨ad, v, hv1, hv2, hrel⟩ := h1.run hs
  refine ⟨.tuple #[v, a.tmps.getD t undef], ?_, rel_tup.2 (Rels.cons hrel (Rels.cons (h2.rel hs) Rels.nil))⟩
  rw [Array.getD_eq_getD_getElem?] at hv1
  simp [results, hr, hv1, hv2]
end Go.Proofs.Ytmbfmnhcahhciaa.A

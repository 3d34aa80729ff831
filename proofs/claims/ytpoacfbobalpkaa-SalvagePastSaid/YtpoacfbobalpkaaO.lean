/- The rules of a walk over abstract states: results that lie in boxes. -/
import Derived.Test.YtpoacfbobalpkaaN
namespace Go.Proofs.Ytpoacfbobalpkaa.A
open Go Go.RowKit
set_option linter.unusedVariables false
set_option linter.unusedSimpArgs false
set_option linter.unusedSectionVars false
variable {P : Program} {w0 : World} {C0 C : CS} {T : TS} {S S' : AState} {a : Act} {w : World} {ops : Array Oper} {rest : List Oper} {o : Oper} {Q : Exit → AState → Prop}

def RetG (R : AV → List OE → Prop) (F : AState → AV → Prop) (e : Exit) (S : AState) : Prop :=
  (e = .ret ∨ e = .normal) ∧ ∃ r nobjs, F S r ∧ R r nobjs ∧ nobjs.Sublist S.objs ∧ ∀ x ∈ nobjs, x.rw = true

theorem ac_of_awpG {f : FuncId} {fn : Func} {c : Code} {args : List AV} {objs : List OE} {R : AV → List OE → Prop} {nt : Nat} (F : AState → AV → Prop) (hf : P.funcs[f]? = some fn) (hb : fn.body = some c) (hnt : fn.ntmps = nt) (hn : Nat.ble args.length nt = true)
    (hF : ∀ (w0 : World) (C0 C : CS) (T : TS) (S : AState) (a : Act) (w : World) (r : AV), SimC w0 C0 C T S a w → F S r → ∃ v, (results fn a.tmps).run P w = .ok v w ∧ Rel C r v)
    (h : ∀ w0 C0, AWP P w0 C0 c (RetG R F) ⟨nt, slotsOf 0 args, ro objs⟩) : AC P f args objs R := by
  subst hnt
  replace hn := Nat.le_of_ble_eq_true hn
  intro C w vals hcom hrels hobjs
  refine calls_of_wp hf hb ?_
  have hl : vals.size = args.length := by have := hrels.1; simpa using this
  have hs : SimC w C C (fun _ => none) ⟨fn.ntmps, slotsOf 0 args, ro objs⟩ ⟨vals ++ Array.replicate (fn.ntmps - vals.size) undef, []⟩ w := by
    refine ⟨Below.refl _ _, hcom.1, hcom.2, fun _ _ _ => rfl, ?_, ?_, by simp, by simp, by simp; omega, ?_, rfl⟩
    · intro e he
      obtain ⟨e0, he0, rfl⟩ := List.mem_map.1 he
      exact ⟨(hobjs.1 e0 he0).1, (hobjs.1 e0 he0).2, fun h => by cases h⟩
    · exact List.pairwise_map.2 hobjs.2
    · intro t x hx
      obtain ⟨j, c', h1, rfl, rfl⟩ := find_slotsOf hx
      obtain ⟨u, hu, hr⟩ := hrels.get h1
      have hj : j < vals.size := by have := (List.getElem?_eq_some_iff.1 h1).1; omega
      have hu' : vals[j]? = some u := by simpa using hu
      have : (vals ++ Array.replicate (fn.ntmps - vals.size) undef).getD (0 + j) undef = u := by
        rw [Nat.zero_add, Array.getD_eq_getD_getElem?, Array.getElem?_append_left hj, hu']; rfl
      rw [this]; exact hr
  refine wp_mono (h w C _ _ ⟨C, _, hs⟩) ?_
  rintro e a' w' ⟨S, ⟨C', T', hs'⟩, he, r, nobjs, hr, hR, hsub, hrw⟩
  obtain ⟨v, hv, hrel⟩ := hF _ _ _ _ _ _ _ _ hs' hr
  have hpost : a'.defers = [] ∧ ∃ v, (results fn a'.tmps).run P w' = .ok v w' ∧ ∃ v' C' r nobjs, Ending.returned v = .returned v' ∧ R r nobjs ∧ Below w.heap.size w w' ∧ (∀ b o, b < w.heap.size → C' b o = C b o) ∧ Com C' w' ∧ Rel C' r v' ∧ Objs C' nobjs w' ∧ ∀ e ∈ nobjs, w.heap.size ≤ e.b :=
    ⟨hs'.defers, v, hv, v, C', r, nobjs, rfl, hR, hs'.below, hs'.old, ⟨hs'.com, hs'.one⟩, hrel,
      ⟨fun x hx => ⟨(hs'.objs x (hsub.mem hx)).1, (hs'.objs x (hsub.mem hx)).2.1⟩, hs'.apart.sublist hsub⟩, fun x hx => (hs'.objs x (hsub.mem hx)).2.2 (hrw x hx)⟩
  rcases he with rfl | rfl
  · exact hpost
  · exact hpost

/-- one result in a box, of a struct's kind -/
structure BoxR (P : Program) (p ty : Nat) (S : AState) (r : AV) : Prop where
  ex : ∃ (b i : Nat) (rw' : Bool) (cs : List AV), S.get p = some (.a (.v (.pointer (some ⟨b, 0, none⟩)))) ∧ S.objs[i]? = some ⟨b, rw', .box cs⟩ ∧ aggT P ty = some true ∧ szT P ty = some cs.length ∧ r = .agg cs
theorem BoxR.mk' {p ty b : Nat} (i : Nat) {rw' : Bool} {cs : List AV} (hp : S.get p = some (.a (.v (.pointer (some ⟨b, 0, none⟩))))) (hi : S.objs[i]? = some ⟨b, rw', .box cs⟩) (hA : aggT P ty = some true) {n : Nat} (hn : szT P ty = some n) (hl : Nat.beq n cs.length = true) : BoxR P p ty S (.agg cs) :=
  ⟨b, i, rw', cs, hp, hi, hA, by rw [hn, Nat.eq_of_beq_eq_true hl], rfl⟩
theorem BoxR.run {p ty : Nat} {r : AV} (hs : SimC w0 C0 C T S a w) (h : BoxR P p ty S r) : ∃ ad v, (asAddr (a.tmps.getD p undef)).run P w = .ok ad w ∧ (loadVar ty ad).run P w = .ok v w ∧ Rel C r v := by
  obtain ⟨b, i, rw', cs, hp, hi, hA, hn, rfl⟩ := h.ex
  have hv := hs.slots _ _ hp
  have hv' : a.tmps.getD p undef = .pointer (some ⟨b, 0, none⟩) := by generalize a.tmps.getD p undef = u at hv; cases hv; rfl
  obtain ⟨arr0, g1, g2⟩ := box_cells (hs.objs _ (mem_of_get hi)).1
  have hl : arr0.length = cs.length := g1.1
  refine ⟨⟨b, 0, none⟩, .agg arr0.toArray, by rw [hv']; simp [asAddr], ?_, rel_agg.2 (by simpa using g1)⟩
  have := run_loadVarA (P := P) (w := w) (b := b) (o := 0) hA hn hl (fun j u hj => by rw [Nat.zero_add]; exact g2 j u hj)
  simpa using this
def ResBT (P : Program) (p ty t : Nat) (S : AState) (r : AV) : Prop := ∃ c c', BoxR P p ty S c ∧ Res S t c' ∧ r = .tup [c, c']
theorem resBT_run {fn : Func} {p ty t : Nat} (hr : fn.results = #[.cell p ty, .tmp t]) : ∀ (w0 : World) (C0 C : CS) (T : TS) (S : AState) (a : Act) (w : World) (r : AV), SimC w0 C0 C T S a w → ResBT P p ty t S r → ∃ v, (results fn a.tmps).run P w = .ok v w ∧ Rel C r v := by
  rintro w0 C0 C T S a w r hs ⟨c, c', h1, h2, rfl⟩
  obtain ⟨ad, v, hv1, hv2, hrel⟩ := h1.run hs
  refine ⟨.tuple #[v, a.tmps.getD t undef], ?_, rel_tup.2 (Rels.cons hrel (Rels.cons (h2.rel hs) Rels.nil))⟩
  rw [Array.getD_eq_getD_getElem?] at hv1
  simp [results, hr, hv1, hv2]
end Go.Proofs.Ytpoacfbobalpkaa.A

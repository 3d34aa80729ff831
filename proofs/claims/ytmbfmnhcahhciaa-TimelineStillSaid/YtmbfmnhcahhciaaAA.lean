/- Rules of walks: parts of strings; readings of arrays of four; objects that a callee only reads, handed over. -/
import Derived.Test.YtmbfmnhcahhciaaP
import Derived.Test.YtmbfmnhcahhciaaK
import Derived.Laws.DeepStrings4
import Derived.OpenShut
namespace Go.Proofs.Ytmbfmnhcahhciaa.A
open Go Go.RowKit
set_option linter.unusedVariables false
set_option linter.unusedSimpArgs false
set_option linter.unusedSectionVars false
variable {P : Program} {w0 : Base} {C0 C : CS} {T : TS} {S S' : AState} {a : Act} {w : World} {ops : Array Oper} {rest : List Oper} {o : Oper} {Q : Exit → AState → Prop}
variable {t : Nat} {ty : TypeId} {pos : String} {aft : Array Edge}

theorem r_strLH {xt : TypeId} {x y z : Operand} {s : ByteArray} {k k' : IntKind} {lo hi : Int} (hx : S.ev x = some (.a (.v (.string s)))) (hy : S.ev y = some (.a (.v (.int k lo)))) (hz : S.ev z = some (.a (.v (.int k' hi)))) (hu : P.underlying xt = some .string)
    (h0 : 0 ≤ lo) (h01 : lo ≤ hi) (h1 : hi ≤ s.size) (ht : Nat.blt t S.nt = true) (hr : AWL P w0 C0 ops rest Q (S.put t (.a (.v (.string (s.extract lo.toNat hi.toNat)))))) : AWL P w0 C0 ops (⟨some t, .slice xt x (some y) (some z) none, ty, pos, aft, none⟩ :: rest) Q S :=
  awl_pure ht (fun C T a w hs => by
    refine ⟨.string (s.extract lo.toNat hi.toNat), ?_, srel_v _⟩
    have h := run_slice_string_if (P := P) w xt s k k' lo hi hu
    rw [if_pos ⟨by omega, h1⟩, if_pos ⟨h0, h01⟩] at h
    simp [execOp, hs.evv hx, hs.evv hy, hs.evv hz, run_sliceAt_string w xt _ _ _ _ hu, h]) hr

theorem rd_arr4 {t e : TypeId} {α : Type} {E : α → List AV} {G : α → Prop} (ht : P.underlying t = some (.array 4 e)) (hsz : szT P e = some 1) (hst : szT P t = some 4) (r : RD P e E G) :
    RD P t (fun a : α × α × α × α => E a.1 ++ E a.2.1 ++ E a.2.2.1 ++ E a.2.2.2) (fun a => G a.1 ∧ G a.2.1 ∧ G a.2.2.1 ∧ G a.2.2.2) := by
  intro H enc W fuel cs x hx
  obtain ⟨xs, m, _, _, hl, hxl, hall⟩ := DataW.trod_array ht hx
  rw [szT_cells hst] at hl
  have key : ∀ i, i < 4 → ∃ a, G a ∧ Rels (C0 W) (E a) ((cs.drop i).take 1) ∧ (E a).all AV.one = true := by
    intro i hi
    have h := hall i hi
    rw [szT_cells hsz, Nat.mul_one, List.getElem?_eq_getElem (by omega)] at h
    exact r enc W m _ _ h
  obtain ⟨a0, g0, h0, o0⟩ := key 0 (by omega)
  obtain ⟨a1, g1, h1, o1⟩ := key 1 (by omega)
  obtain ⟨a2, g2, h2, o2⟩ := key 2 (by omega)
  obtain ⟨a3, g3, h3, o3⟩ := key 3 (by omega)
  refine ⟨⟨a0, a1, a2, a3⟩, ⟨g0, g1, g2, g3⟩, ?_, by simp only [List.all_append, o0, o1, o2, o3, Bool.and_self]⟩
  match cs, hl with
  | [c0, c1, c2, c3], _ => exact ((h0.append h1).append h2).append h3
/-- objects that a callee only reads, handed over -/
theorem AW.keep {f : FuncId} {args : List AV} {objs : List OE} {R : AV → List OE → Prop} (h : AC P f args objs R) : AW P f args [] objs (fun r n => ∃ n', R r n' ∧ n = n' ++ objs) :=
  fun C w vals h1 h2 h3 => by
    have h3' : Objs C objs w := h3
    refine (h C w vals h1 h2 h3').mono fun e w' ⟨v, C', r, n, g1, g2, g3, g4, g5, g6, g7, g8⟩ => ⟨v, C', r, n ++ objs, g1, ⟨n, g2, rfl⟩, BelowX.of g3, fun b o hb _ => g4 b o hb, g5, g6, ⟨fun e he => ?_, ?_⟩, fun e he => ?_⟩
    · rcases List.mem_append.1 he with he | he
      · exact g7.1 e he
      · obtain ⟨k1, k2⟩ := h3'.1 e he
        have hlt := k1.nodef.1
        refine ⟨k1.mono (fun b o v hc => ?_) (g3.block _ hlt), fun o => by rw [g4 _ _ hlt]; exact k2 o⟩
        have hb : b < w.heap.size := by have := World.block_lt_of_cell? w _ (h1.1 _ _ _ hc); simpa using this
        rw [g4 _ _ hb]; exact hc
    · exact List.pairwise_append.2 ⟨g7.2, h3'.2, fun e he e' he' hb => by have := g8 e he; have := (h3'.1 e' he').1.nodef.1; omega⟩
    · rcases List.mem_append.1 he with he | he
      · exact .inl (g8 e he)
      · exact .inr ⟨e, he, rfl⟩
theorem AW.ac {f : FuncId} {args : List AV} {R : AV → List OE → Prop} (h : AW P f args [] [] R) : AC P f args [] R :=
  fun C w vals h1 h2 h3 => (h C w vals h1 h2 h3).mono fun e w' ⟨v, C', r, n, g1, g2, g3, g4, g5, g6, g7, g8⟩ =>
    ⟨v, C', r, n, g1, g2, ⟨g3.os, g3.tape, g3.output, g3.size, fun k hk => g3.block k hk wb_nil⟩, fun b o hb => g4 b o hb wb_nil, g5, g6, g7, fun e he => (g8 e he).resolve_right wb_nil⟩
end Go.Proofs.Ytmbfmnhcahhciaa.A

import Derived.WalkKit
import Derived.Below
import Derived.Laws.Rows
import Derived.Laws.CopyRow
import Derived.Laws.AppendOwn
import Derived.RangeFuncLeaves
import Derived.RangeFuncSeq
import Derived.RangeFuncCalls
import Derived.MapKept
import Derived.Orders
import Derived.Laws.IdiomStrings
import Derived.Laws.BytesArg
import Derived.Shelf.SlIter.Nil
import Derived.RangeFuncBound
import Derived.Maps.RangeRun
import Derived.DeepKeys3
import Derived.Laws.StructEq
import Derived.Shelf.SlSortCmp.NoneTotal
import Derived.ChangeKeysEq
import Derived.Laws.MakeOwn
import Derived.ChangeArms
import Derived.ChangeOld
import Derived.Laws.DeepStrings4
import Derived.OpenShut
import Derived.Test.YtljgdbgcleibjaaProg
import Derived.KernelRfl
import Derived.OrdersIn
import Derived.Lib.AppendZeros
import Derived.Lib.AppendZerosOnto
import Derived.Lib.Overlaps
import Derived.Deep.AppendSrc
import Derived.Shelf.SlGeneric
import Derived.Ground.SlsfProg
import Derived.Test.YtljgdbgcleibjaaM7
namespace Go.Proofs.Ytljgdbgcleibjaa.A
open Go Go.RowKit
set_option linter.unusedVariables false
set_option linter.unusedSimpArgs false
theorem high_pow : ∀ (h : Nat) {lo : Nat} {n : Nd h}, wfC lo h n.2 → 1 ≤ lo → (0 < h → 2 ≤ lo) → 2 ^ h ≤ (flat h n.2).length
  | 0, lo, n, hw, hlo, _ => by
    have : lo ≤ (itsOf n).length := hw.1
    show 1 ≤ (itsOf n).length
    omega
  | h + 1, lo, n, hw, hlo, h2 => by
    have h2' := h2 (Nat.succ_pos h)
    have hl : lo ≤ (kdsOf n).length := hw.1
    have hk : ∀ x ∈ kdsOf n, wfC 2 h x.2 := hw.2.2
    obtain ⟨x, hx⟩ := get_lt (l := kdsOf n) (i := 0) (by omega)
    obtain ⟨y, hy⟩ := get_lt (l := kdsOf n) (i := 1) (by omega)
    have h3 := high_pow h (hk x (List.mem_of_getElem? hx)) (by omega) (fun _ => Nat.le_refl 2)
    have h4 := high_pow h (hk y (List.mem_of_getElem? hy)) (by omega) (fun _ => Nat.le_refl 2)
    show 2 ^ (h + 1) ≤ (flatK (kdsOf n)).length
    rw [flatK_two hx hy, Nat.pow_succ]
    simp only [List.length_append]
    omega
theorem high_small {h : Nat} {N : Nat} (h1 : 2 ^ h ≤ N) (h2 : N ≤ 1000) : h ≤ 9 := by
  rcases Nat.lt_or_ge h 10 with h3 | h3
  · omega
  · have := Nat.pow_le_pow_right (n := 2) (by omega) h3
    omega
end Go.Proofs.Ytljgdbgcleibjaa.A
namespace Go.Proofs.Ytljgdbgcleibjaa.A
open Go Go.RowKit
set_option linter.unusedVariables false
set_option linter.unusedSimpArgs false
set_option maxRecDepth 100000
theorem TF.en17 : entersT Try.prog 17 := enters_of Try.func17 (by kernel_rfl) (by kernel_rfl)
theorem nds_nil (m d : Nat) (ks : List Nat) : AW Try.prog 17 [nilP, .v (.int .i64 (d : Int)), .v (.map (some m))] [] [⟨m, true, .nset (ks)⟩] (fun r n => r = .tup [] ∧ n = [⟨m, true, .nset (ks)⟩]) := by
 refine aw_of_awp (rs := []) (nt := 31) (so := [⟨m, true, .nset (ks)⟩]) Try.func17 rfl rfl rfl rfl rfl (fun w0 C0 hq => ?_)
 unfold nilP
 refine awp_seq ?_
 refine awp_seq ?_
 refine awp_region ?_
 refine r_move rfl rfl ?_
 refine r_pnil rfl (by first | exact .pt _ _ | exact .nil | exact .v _ | exact .cp _) TF.un36 rfl ?_
 refine r_move rfl rfl ?_
 refine g_skip rfl rfl rfl rfl ?_
 refine g_skip rfl rfl rfl rfl ?_
 refine r_pickT rfl rfl rfl rfl ?_
 refine awl_nil ?_
 refine x_then ?_
 refine awp_condT rfl ?_
 refine awp_ret ?_
 refine x_thenR ?_
 exact ⟨(.inl rfl), _, [⟨m, true, .nset (ks)⟩], .none, ⟨rfl, rfl⟩, (List.Sublist.refl _), (by simp)⟩
theorem nds_leaf (m c d : Nat) (hd : d ≤ 40) (its : List (Sp × Int)) (ks : List Nat) : AW Try.prog 17 [ndA c (its.map fun p : Sp × Int => p.1) (its.map fun p : Sp × Int => p.2) [], .v (.int .i64 (d : Int)), .v (.map (some m))] [] [⟨m, true, .nset (ks)⟩] (fun r n => r = .tup [] ∧ n = [⟨m, true, .nset (sset ks c)⟩]) := by
 refine aw_of_awp (rs := []) (nt := 31) (so := [⟨m, true, .nset (ks)⟩]) Try.func17 rfl rfl rfl rfl rfl (fun w0 C0 hq => ?_)
 unfold ndA
 refine awp_seq ?_
 refine awp_seq ?_
 refine awp_region ?_
 refine r_move rfl rfl ?_
 refine r_pnil rfl (by first | exact .pt _ _ | exact .nil | exact .v _ | exact .cp _) TF.un36 rfl ?_
 refine r_move rfl rfl ?_
 refine g_run rfl rfl rfl ?_
 refine r_move rfl rfl ?_
 refine g_run rfl rfl rfl ?_
 refine r_cmp rfl rfl rfl rfl ?_
 refine r_pickF rfl rfl rfl rfl ?_
 refine awl_nil ?_
 refine x_then ?_
 refine awp_cond rfl (fun hc0 => ?_) (fun hc0 => ?_)
 ·
  exfalso; have := of_decide_eq_true hc0; omega
 ·
  refine awp_skip ?_
  refine x_then ?_
  refine awp_seq ?_
  refine awp_region ?_
  refine r_move rfl rfl ?_
  refine r_move rfl rfl ?_
  refine r_setIn 0 ptm34 rfl rfl rfl rfl ⟨_, _, _, rfl⟩ ?_
  refine awl_nil ?_
  refine x_then ?_
  refine awp_seq ?_
  refine awp_region ?_
  refine r_move rfl rfl ?_
  refine r_nilCheck rfl (by first | exact .pt _ _ | exact .v _ | exact .cp _) rfl ?_
  first | (refine r_fieldcp rfl TF.f82_2 TF.sz80 rfl ?_) | (refine r_fieldpt rfl TF.f82_2 TF.sz80 rfl ?_) | (refine r_fieldb rfl TF.f82_2 TF.sz80 rfl ?_)
  first | (refine r_load1 rfl TF.agg80 rfl ?_) | (refine r_load1b 0 rfl rfl rfl TF.agg80 rfl ?_)
  first | (refine r_lenS rfl rfl TF.sl80 rfl ?_) | (refine r_lenNil rfl TF.sl80 rfl ?_) | (refine r_lenV rfl TF.sl80 rfl ?_)
  refine r_move rfl rfl ?_
  refine awl_nil ?_
  refine x_then ?_
  refine awp_block ?_
  refine awp_loop (fun nn0 S => ∃ z : Nat, S = ⟨31, [(19, .a (.sl 1 [])), (20, .a (.v (.int .i64 ((0 : Nat))))), (21, .a (.v (.int .i64 (0))))], [⟨m, true, .nset (sset ks c)⟩]⟩ ∧ nn0 = 2 * z) (2 * (0)) ⟨31, [(19, .a (.sl 1 [])), (20, .a (.v (.int .i64 ((0 : Nat))))), (21, .a (.v (.int .i64 (0))))], [⟨m, true, .nset (sset ks c)⟩]⟩ ⟨rfl, (Slots.cons rfl (by first | exact .refl _ | exact .nilOwn _ _ | exact .nilSl _ | exact .ownSl _ _ _  | exact SV.le.of_eq (by simp)) (Slots.cons rfl (by first | exact .refl _ | exact .nilOwn _ _ | exact .nilSl _ | exact .ownSl _ _ _  | exact SV.le.of_eq (by simp)) (Slots.cons rfl (by first | exact .refl _ | exact .nilOwn _ _ | exact .nilSl _ | exact .ownSl _ _ _  | exact SV.le.of_eq (by simp)) Slots.nil))), (by first | exact List.Sublist.refl _ | exact .cons_cons _ (.cons _ (.refl _)) | exact List.nil_sublist _ | exact .cons _ (.refl _) | exact .cons _ (.cons _ (.refl _)) | exact .cons _ (.cons _ (.cons _ (.refl _))) | exact .cons _ (.cons _ (.cons _ (.cons _ (.refl _)))) | exact .cons_cons _ (List.nil_sublist _))⟩ ⟨0, rfl, rfl⟩ ?_
  rintro nn0 _ ⟨z, rfl, rfl⟩
  refine awp_seq ?_
  refine awp_region ?_
  refine r_cmp rfl rfl rfl rfl ?_
  refine awl_nil ?_
  refine x_then ?_
  refine awp_seq ?_
  refine awp_cond rfl (fun hc1 => ?_) (fun hc1 => ?_)
  ·
   exfalso; cases hc1
  ·
   refine awp_exit ?_
   refine x_thenE ?_
   refine x_thenE ?_
   refine x_blockE ?_
   exact ⟨(.inr rfl), _, [⟨m, true, .nset (sset ks c)⟩], .none, ⟨rfl, rfl⟩, (List.Sublist.refl _), (by simp)⟩
theorem nds_inner (h m c d : Nat) (hd : d + h + 1 ≤ 40) (l : List (Nd h)) (hl : l.length ≤ 1000) (ks : List Nat) (ih : ∀ (x : Nd h), wfC 1 h x.2 → ∀ (d : Nat), d + h ≤ 40 → ∀ (ks : List Nat), AW Try.prog 17 [enc h x, .v (.int .i64 (d : Int)), .v (.map (some m))] [] [⟨m, true, .nset (ks)⟩] (fun r n => r = .tup [] ∧ n = [⟨m, true, .nset (addS h x ks)⟩])) (hw : ∀ x ∈ l, wfC 1 h x.2) : AW Try.prog 17 [ndA c (kksOf h l) [] (l.map (enc h)), .v (.int .i64 (d : Int)), .v (.map (some m))] [] [⟨m, true, .nset (ks)⟩] (fun r n => r = .tup [] ∧ n = [⟨m, true, .nset (l.foldl (fun a x => addS h x a) (sset ks c))⟩]) := by
 refine aw_of_awp (rs := []) (nt := 31) (so := [⟨m, true, .nset (ks)⟩]) Try.func17 rfl rfl rfl rfl rfl (fun w0 C0 hq => ?_)
 unfold ndA
 refine awp_seq ?_
 refine awp_seq ?_
 refine awp_region ?_
 refine r_move rfl rfl ?_
 refine r_pnil rfl (by first | exact .pt _ _ | exact .nil | exact .v _ | exact .cp _) TF.un36 rfl ?_
 refine r_move rfl rfl ?_
 refine g_run rfl rfl rfl ?_
 refine r_move rfl rfl ?_
 refine g_run rfl rfl rfl ?_
 refine r_cmp rfl rfl rfl rfl ?_
 refine r_pickF rfl rfl rfl rfl ?_
 refine awl_nil ?_
 refine x_then ?_
 refine awp_cond rfl (fun hc0 => ?_) (fun hc0 => ?_)
 ·
  exfalso; have := of_decide_eq_true hc0; omega
 ·
  refine awp_skip ?_
  refine x_then ?_
  refine awp_seq ?_
  refine awp_region ?_
  refine r_move rfl rfl ?_
  refine r_move rfl rfl ?_
  refine r_setIn 0 ptm34 rfl rfl rfl rfl ⟨_, _, _, rfl⟩ ?_
  refine awl_nil ?_
  refine x_then ?_
  refine awp_seq ?_
  refine awp_region ?_
  refine r_move rfl rfl ?_
  refine r_nilCheck rfl (by first | exact .pt _ _ | exact .v _ | exact .cp _) rfl ?_
  first | (refine r_fieldcp rfl TF.f82_2 TF.sz80 rfl ?_) | (refine r_fieldpt rfl TF.f82_2 TF.sz80 rfl ?_) | (refine r_fieldb rfl TF.f82_2 TF.sz80 rfl ?_)
  first | (refine r_load1 rfl TF.agg80 rfl ?_) | (refine r_load1b 0 rfl rfl rfl TF.agg80 rfl ?_)
  first | (refine r_lenS rfl rfl TF.sl80 rfl ?_) | (refine r_lenNil rfl TF.sl80 rfl ?_) | (refine r_lenV rfl TF.sl80 rfl ?_)
  refine r_move rfl rfl ?_
  refine awl_nil ?_
  refine x_then ?_
  refine awp_block ?_
  refine awp_loop (fun nn0 S => ∃ j : Nat, S = ⟨31, [(1, .a (.v (.int .i64 (d : Int)))), (2, .a (.v (.map (some m)))), (19, .a (.sl 1 ((l.map (enc h)).map fun x => [x]))), (20, .a (.v (.int .i64 ((((l.map (enc h)).map fun x => [x]).length : Nat))))), (21, .a (.v (.int .i64 ((j : Int)))))], [⟨m, true, .nset ((l.take (j)).foldl (fun a x => addS h x a) (sset ks c))⟩]⟩ ∧ nn0 = l.length - j ∧ (j ≤ l.length)) (l.length - (0)) ⟨31, [(1, .a (.v (.int .i64 (d : Int)))), (2, .a (.v (.map (some m)))), (19, .a (.sl 1 ((l.map (enc h)).map fun x => [x]))), (20, .a (.v (.int .i64 ((((l.map (enc h)).map fun x => [x]).length : Nat))))), (21, .a (.v (.int .i64 (((0) : Int)))))], [⟨m, true, .nset ((l.take ((0))).foldl (fun a x => addS h x a) (sset ks c))⟩]⟩ ⟨rfl, (Slots.cons rfl (by first | exact .refl _ | exact .nilOwn _ _ | exact .nilSl _ | exact .ownSl _ _ _  | exact SV.le.of_eq (by simp)) (Slots.cons rfl (by first | exact .refl _ | exact .nilOwn _ _ | exact .nilSl _ | exact .ownSl _ _ _  | exact SV.le.of_eq (by simp)) (Slots.cons rfl (by first | exact .refl _ | exact .nilOwn _ _ | exact .nilSl _ | exact .ownSl _ _ _  | exact SV.le.of_eq (by simp)) (Slots.cons rfl (by first | exact .refl _ | exact .nilOwn _ _ | exact .nilSl _ | exact .ownSl _ _ _  | exact SV.le.of_eq (by simp)) (Slots.cons rfl (by first | exact .refl _ | exact .nilOwn _ _ | exact .nilSl _ | exact .ownSl _ _ _  | exact SV.le.of_eq (by simp)) Slots.nil))))), (by first | exact List.Sublist.refl _ | exact .cons_cons _ (.cons _ (.refl _)) | exact List.nil_sublist _ | exact .cons _ (.refl _) | exact .cons _ (.cons _ (.refl _)) | exact .cons _ (.cons _ (.cons _ (.refl _))) | exact .cons _ (.cons _ (.cons _ (.cons _ (.refl _)))) | exact .cons_cons _ (List.nil_sublist _))⟩ ⟨0, rfl, rfl, Nat.zero_le _⟩ ?_
  rintro nn0 _ ⟨j, rfl, rfl, hj⟩
  refine awp_seq ?_
  refine awp_region ?_
  refine r_cmp rfl rfl rfl rfl ?_
  refine awl_nil ?_
  refine x_then ?_
  refine awp_seq ?_
  refine awp_cond rfl (fun hc1 => ?_) (fun hc1 => ?_)
  ·
   have hltx : j < l.length := by have := of_decide_eq_true hc1; simpa using this
   obtain ⟨x, hx⟩ := get_lt hltx
   refine awp_skip ?_
   refine x_then ?_
   refine awp_seq ?_
   refine awp_block ?_
   refine awp_seq ?_
   refine awp_region ?_
   refine r_index rfl rfl rfl TF.sl80 TF.sz36 (by omega) (get_map (get_map hx)) rfl ?_
   first | (refine r_load1 rfl TF.agg36 rfl ?_) | (refine r_load1b 0 rfl rfl rfl TF.agg36 rfl ?_)
   refine r_assign rfl rfl ?_
   refine awl_nil ?_
   refine x_then ?_
   refine awp_region ?_
   refine r_move rfl rfl ?_
   refine r_move rfl rfl ?_
   refine r_ari ((d + 1 : Nat) : Int) rfl rfl rfl (wrap_id (by omega)) rfl ?_
   refine r_move rfl rfl ?_
   refine r_callW hq [true] rfl rfl (.cons (.ev rfl rfl) (.cons (.ev rfl rfl) (.cons (.ev rfl rfl) .nil))) (ih x (hw x (List.mem_of_getElem? hx)) (d + 1) (by omega) _) rfl TF.en17 rfl rfl (List.nil_sublist _) rfl (fun r nobjs hr => ?_)
   obtain ⟨rfl, rfl⟩ := hr
   refine awl_nil ?_
   refine x_block ?_
   refine x_then ?_
   refine awp_region ?_
   refine r_ari _ rfl rfl rfl (wrap_id (by first | omega | (simp; omega))) rfl ?_
   refine r_move rfl rfl ?_
   refine awl_nil ?_
   refine x_then ?_
   refine ⟨l.length - (j + 1), ⟨31, [(1, .a (.v (.int .i64 (d : Int)))), (2, .a (.v (.map (some m)))), (19, .a (.sl 1 ((l.map (enc h)).map fun x => [x]))), (20, .a (.v (.int .i64 ((((l.map (enc h)).map fun x => [x]).length : Nat))))), (21, .a (.v (.int .i64 (((j + 1) : Int)))))], [⟨m, true, .nset ((l.take ((j + 1))).foldl (fun a x => addS h x a) (sset ks c))⟩]⟩, ⟨rfl, (Slots.cons rfl (by first | exact .refl _ | exact .nilOwn _ _ | exact .nilSl _ | exact .ownSl _ _ _  | exact SV.le.of_eq (by simp)) (Slots.cons rfl (by first | exact .refl _ | exact .nilOwn _ _ | exact .nilSl _ | exact .ownSl _ _ _  | exact SV.le.of_eq (by simp)) (Slots.cons rfl (by first | exact .refl _ | exact .nilOwn _ _ | exact .nilSl _ | exact .ownSl _ _ _  | exact SV.le.of_eq (by simp)) (Slots.cons rfl (by first | exact .refl _ | exact .nilOwn _ _ | exact .nilSl _ | exact .ownSl _ _ _  | exact SV.le.of_eq (by simp)) (Slots.cons rfl (by first | exact .refl _ | exact .nilOwn _ _ | exact .nilSl _ | exact .ownSl _ _ _  | exact SV.le.of_eq (by simp)) Slots.nil))))), (by rw [List.take_add_one, hx]; simp only [Option.toList_some, List.foldl_append, List.foldl_cons, List.foldl_nil]; exact List.Sublist.refl _)⟩, (by omega), ⟨j + 1, rfl, rfl, (by omega)⟩⟩
  ·
   have hge : l.length ≤ j := by have := of_decide_eq_false hc1; simp at this; omega
   obtain rfl : j = l.length := by omega
   rw [List.take_length]
   refine awp_exit ?_
   refine x_thenE ?_
   refine x_thenE ?_
   refine x_blockE ?_
   exact ⟨(.inr rfl), _, [⟨m, true, .nset (l.foldl (fun a x => addS h x a) (sset ks c))⟩], .none, ⟨rfl, rfl⟩, (List.Sublist.refl _), (by simp)⟩
theorem nds_ok (m : Nat) : ∀ (h : Nat) (x : Nd h), wfC 1 h x.2 → ∀ (d : Nat), d + h ≤ 40 → ∀ (ks : List Nat), AW Try.prog 17 [enc h x, .v (.int .i64 (d : Int)), .v (.map (some m))] [] [⟨m, true, .nset (ks)⟩] (fun r n => r = .tup [] ∧ n = [⟨m, true, .nset (addS h x ks)⟩])
  | 0, x, _, d, hd, ks => nds_leaf m x.1 d hd (itsOf x) ks
  | h + 1, x, hw, d, hd, ks => nds_inner h m x.1 d hd (kdsOf x) (Nat.le_trans hw.2.1 (by omega)) ks (fun y hy d hd ks => nds_ok m h y hy d hd ks) (fun y hy => (hw.2.2 y hy).mono (by omega))
theorem ndsT_ok (m : Nat) (t : TreeV) (x : List It) (hG : Good t x) (hx : x.length ≤ 1000) : AW Try.prog 17 [encR (rootT t), .v (.int .i64 0), .v (.map (some m))] [] [⟨m, true, .nset []⟩] (fun r n => r = .tup [] ∧ n = [⟨m, true, .nset (idl t)⟩]) := by
  have h1 := hG.wf; have h2 := hG.fl
  cases hr : rootT t with
  | none =>
    have : idl t = [] := by unfold idl; rw [hr]
    rw [this]
    exact nds_nil m 0 []
  | some s =>
    obtain ⟨h, n⟩ := s
    rw [hr] at h1 h2
    have : idl t = addS h n [] := by unfold idl; rw [hr]
    rw [this]
    have hh : h ≤ 40 := by
      have h3 : (flat h n.2).length = x.length := congrArg List.length h2
      have h4 : 2 ^ h ≤ (flat h n.2).length := by
        cases h with
        | zero => exact high_pow 0 h1.1 (Nat.le_refl 1) (fun h => absurd h (Nat.lt_irrefl 0))
        | succ h => exact high_pow (h + 1) (h1.1.to (h1.2 (Nat.succ_pos h))) (by omega) (fun _ => Nat.le_refl 2)
      have := high_small h4 (by omega)
      omega
    exact nds_ok m h n h1.1 0 (by omega) []
end Go.Proofs.Ytljgdbgcleibjaa.A
namespace Go.Proofs.Ytljgdbgcleibjaa.A
open Go Go.RowKit
set_option linter.unusedVariables false
set_option linter.unusedSimpArgs false
set_option maxRecDepth 100000
set_option maxHeartbeats 1000000 in
theorem looked_walk (l m u : List Ac) : AC Try.prog 4 [.sl 6 (l.map Ac.cs), .sl 6 (m.map Ac.cs), .sl 6 (u.map Ac.cs)] [] (fun r n => n = [] ∧ r = boolA true) := by
 refine ac_of_awp (rs := [6]) (nt := 99) Try.func4 rfl rfl rfl rfl (fun w0 C0 hq => ?_)
 refine awp_seq ?_
 refine awp_region ?_
 refine r_assign rfl rfl ?_
 refine awl_nil ?_
 refine x_then ?_
 refine awp_seq ?_
 refine awp_seq ?_
 refine awp_region ?_
 refine r_call0 hq rfl rfl .nil (awake_ok) rfl TF.en11 rfl (fun r hr => ?_)
 obtain rfl := hr
 refine r_not rfl rfl ?_
 refine awl_nil ?_
 refine x_then ?_
 refine awp_cond rfl (fun hc0 => ?_) (fun hc0 => ?_)
 ·
  exfalso; cases hc0
 ·
  refine awp_skip ?_
  refine x_then ?_
  refine awp_seq ?_
  refine awp_seq ?_
  refine awp_region ?_
  refine r_move rfl rfl ?_
  first | (refine r_lenS rfl rfl TF.sl22 rfl ?_) | (refine r_lenNil rfl TF.sl22 rfl ?_) | (refine r_lenV rfl TF.sl22 rfl ?_)
  refine r_cmp rfl rfl rfl rfl ?_
  refine r_move rfl rfl ?_
  refine g_cases (t' := 23) rfl (fun hg23 => ?_) (fun hg23 => ?_)
  ·
   refine g_skip rfl rfl hg23 rfl ?_
   refine g_skip rfl rfl hg23 rfl ?_
   refine g_skip rfl rfl hg23 rfl ?_
   refine r_pickT rfl hg23 rfl rfl ?_
   refine r_move rfl rfl ?_
   refine g_skip rfl rfl rfl rfl ?_
   refine g_skip rfl rfl rfl rfl ?_
   refine g_skip rfl rfl rfl rfl ?_
   refine r_pickT rfl rfl rfl rfl ?_
   refine awl_nil ?_
   refine x_then ?_
   refine awp_condT rfl ?_
   refine awp_seq ?_
   refine awp_region ?_
   refine r_assign rfl rfl ?_
   refine awl_nil ?_
   refine x_then ?_
   refine awp_ret ?_
   refine x_thenR ?_
   exact ⟨(.inl rfl), _, [], (.one (by first | exact .mk rfl rfl | exact .nil rfl)), ⟨rfl, by first | rfl | (unfold lookN boolA; simp; try rfl)⟩, (List.nil_sublist _), (by simp)⟩
  ·
   have hl_l : l.length ≤ 50 := by have := of_decide_eq_false hg23; simp at this; omega
   refine g_run rfl rfl hg23 ?_
   refine r_move rfl rfl ?_
   refine g_run rfl rfl hg23 ?_
   first | (refine r_lenS rfl rfl TF.sl22 rfl ?_) | (refine r_lenNil rfl TF.sl22 rfl ?_) | (refine r_lenV rfl TF.sl22 rfl ?_)
   refine g_run rfl rfl hg23 ?_
   refine r_cmp rfl rfl rfl rfl ?_
   refine r_pickF rfl hg23 rfl rfl ?_
   refine r_move rfl rfl ?_
   refine g_cases (t' := 28) rfl (fun hg28 => ?_) (fun hg28 => ?_)
   ·
    refine g_skip rfl rfl hg28 rfl ?_
    refine g_skip rfl rfl hg28 rfl ?_
    refine g_skip rfl rfl hg28 rfl ?_
    refine r_pickT rfl hg28 rfl rfl ?_
    refine awl_nil ?_
    refine x_then ?_
    refine awp_condT rfl ?_
    refine awp_seq ?_
    refine awp_region ?_
    refine r_assign rfl rfl ?_
    refine awl_nil ?_
    refine x_then ?_
    refine awp_ret ?_
    refine x_thenR ?_
    exact ⟨(.inl rfl), _, [], (.one (by first | exact .mk rfl rfl | exact .nil rfl)), ⟨rfl, by first | rfl | (unfold lookN boolA; simp; try rfl)⟩, (List.nil_sublist _), (by simp)⟩
   ·
    have hl_m : m.length ≤ 30 := by have := of_decide_eq_false hg28; simp at this; omega
    refine g_run rfl rfl hg28 ?_
    refine r_move rfl rfl ?_
    refine g_run rfl rfl hg28 ?_
    first | (refine r_lenS rfl rfl TF.sl22 rfl ?_) | (refine r_lenNil rfl TF.sl22 rfl ?_) | (refine r_lenV rfl TF.sl22 rfl ?_)
    refine g_run rfl rfl hg28 ?_
    refine r_cmp rfl rfl rfl rfl ?_
    refine r_pickF rfl hg28 rfl rfl ?_
    refine awl_nil ?_
    refine x_then ?_
    refine awp_cond rfl (fun hc1 => ?_) (fun hc1 => ?_)
    ·
     refine awp_seq ?_
     refine awp_region ?_
     refine r_assign rfl rfl ?_
     refine awl_nil ?_
     refine x_then ?_
     refine awp_ret ?_
     refine x_thenR ?_
     exact ⟨(.inl rfl), _, [], (.one (by first | exact .mk rfl rfl | exact .nil rfl)), ⟨rfl, by first | rfl | (unfold lookN boolA; simp; try rfl)⟩, (List.nil_sublist _), (by simp)⟩
    ·
     have hl_u : u.length ≤ 30 := by have := of_decide_eq_false hc1; simp at this; omega
     refine awp_skip ?_
     refine x_then ?_
     refine awp_seq ?_
     refine awp_region ?_
     refine r_call0 hq rfl rfl .nil (New_ok) rfl TF.en13 rfl (fun r hr => ?_)
     obtain rfl := hr
     refine r_move rfl rfl ?_
     refine r_call0 hq rfl rfl (.cons (.ev rfl rfl) (.cons (.nil rfl) (.cons (.ev rfl rfl) .nil))) (play_ok (some (none, 0)) [] good_new l (by simp; omega)) rfl TF.en12 rfl (fun r hr => ?_)
     obtain ⟨tt, hgtt, rfl⟩ := hr
     have hp_V := refPlay_len [] l
     try simp only [List.length_nil, Nat.zero_add] at hp_V
     generalize refPlay [] l = V at hgtt hp_V ⊢
     refine r_move rfl rfl ?_
     refine r_extract rfl rfl rfl ?_
     refine r_extract rfl rfl rfl ?_
     refine r_assign rfl rfl ?_
     refine r_assign rfl rfl ?_
     refine awl_nil ?_
     refine x_then ?_
     refine awp_seq ?_
     refine awp_region ?_
     refine r_move rfl rfl ?_
     refine r_move rfl rfl ?_
     refine r_move rfl rfl ?_
     refine r_call0 hq rfl rfl (.cons (.ev rfl rfl) (.cons (.ev rfl rfl) (.cons (.ev rfl rfl) .nil))) (play_ok tt V hgtt m (by omega)) rfl TF.en12 rfl (fun r hr => ?_)
     obtain ⟨ta, hgta, rfl⟩ := hr
     have hp_X := refPlay_len V m
     try simp only [List.length_nil, Nat.zero_add] at hp_X
     generalize refPlay V m = X at hgta hp_X ⊢
     refine r_move rfl rfl ?_
     refine r_extract rfl rfl rfl ?_
     refine r_extract rfl rfl rfl ?_
     refine r_assign rfl rfl ?_
     refine r_assign rfl rfl ?_
     refine awl_nil ?_
     refine x_then ?_
     refine awp_seq ?_
     refine awp_region ?_
     refine r_move rfl rfl ?_
     refine r_move rfl rfl ?_
     refine r_move rfl rfl ?_
     refine r_call0 hq rfl rfl (.cons (.ev rfl rfl) (.cons (.ev rfl rfl) (.cons (.ev rfl rfl) .nil))) (play_ok tt V hgtt u (by omega)) rfl TF.en12 rfl (fun r hr => ?_)
     obtain ⟨tb, hgtb, rfl⟩ := hr
     have hp_Y := refPlay_len V u
     try simp only [List.length_nil, Nat.zero_add] at hp_Y
     generalize refPlay V u = Y at hgtb hp_Y ⊢
     refine r_move rfl rfl ?_
     refine r_extract rfl rfl rfl ?_
     refine r_extract rfl rfl rfl ?_
     refine r_assign rfl rfl ?_
     refine r_assign rfl rfl ?_
     refine awl_nil ?_
     refine x_then ?_
     refine awp_seq ?_
     refine awp_region ?_
     refine r_makeSet rfl (fun b53 => ?_)
     refine r_makeSet rfl (fun b54 => ?_)
     refine r_assign rfl rfl ?_
     refine r_assign rfl rfl ?_
     refine awl_nil ?_
     refine x_then ?_
     refine awp_seq ?_
     refine awp_region ?_
     refine r_move rfl rfl ?_
     refine r_call0 hq rfl rfl (.cons (.ev rfl rfl) .nil) (Root_ok ta) rfl TF.en18 rfl (fun r hr => ?_)
     obtain rfl := hr
     refine r_move rfl rfl ?_
     refine r_callW hq [false, true] rfl rfl (.cons (.ev rfl rfl) (.cons (.ev rfl rfl) (.cons (.ev rfl rfl) .nil))) (ndsT_ok b53 ta X hgta (by omega)) rfl TF.en17 rfl rfl (List.nil_sublist _) rfl (fun r nobjs hr => ?_)
     obtain ⟨rfl, rfl⟩ := hr
     have hia : (idl ta).length ≤ 100000 := (good_ids hgta (x := X) (by omega))
     have hib : (idl tb).length ≤ 100000 := (good_ids hgtb (x := Y) (by omega))
     have hnda := idl_nodup ta
     have hndb := idl_nodup tb
     have hll := look_small hia hib
     refine awl_nil ?_
     refine x_then ?_
     refine awp_seq ?_
     refine awp_region ?_
     refine r_move rfl rfl ?_
     refine r_call0 hq rfl rfl (.cons (.ev rfl rfl) .nil) (Root_ok tb) rfl TF.en18 rfl (fun r hr => ?_)
     obtain rfl := hr
     refine r_move rfl rfl ?_
     refine r_callW hq [false, true] rfl rfl (.cons (.ev rfl rfl) (.cons (.ev rfl rfl) (.cons (.ev rfl rfl) .nil))) (ndsT_ok b54 tb Y hgtb (by omega)) rfl TF.en17 rfl rfl (List.nil_sublist _) rfl (fun r nobjs hr => ?_)
     obtain ⟨rfl, rfl⟩ := hr
     refine awl_imp (imp_perm (objs := [⟨b53, true, .nset (idl ta)⟩, ⟨b54, true, .nset (idl tb)⟩]) (List.Perm.swap _ _ _)) ?_
     refine awl_nil ?_
     refine x_then ?_
     refine awp_seq ?_
     refine awp_region ?_
     refine r_assign rfl rfl ?_
     refine awl_nil ?_
     refine x_then ?_
     refine awp_seq ?_
     refine awp_seq ?_
     refine awp_region ?_
     refine r_move rfl rfl ?_
     refine r_setRange 0 rfl rfl TF.map34 rfl (fun rb bs clock hbl hbn => ?_)
     refine awl_nil ?_
     refine x_then ?_
     refine awp_block ?_
     refine awp_loop (fun nn0 S => ∃ ps : List Nat, ∃ seen : List Nat, S = ⟨99, [(9, .a (encT ta)), (11, .a (encT tb)), (13, .a (.v (.map (some b53)))), (14, .a (.v (.map (some b54)))), (15, .a (.v (.int .i64 ((missL ps (idl tb) : Nat))))), (64, .a (.v (.pointer (some ⟨rb, 0, none⟩))))], [⟨rb, true, .iter b53 clock seen clock⟩, ⟨b53, true, .nsetb (idl ta) bs clock⟩, ⟨b54, true, .nset (idl tb)⟩]⟩ ∧ nn0 = (idl ta).length - ps.length ∧ (Vis (idl ta) bs seen ps)) ((idl ta).length - ([]).length) ⟨99, [(9, .a (encT ta)), (11, .a (encT tb)), (13, .a (.v (.map (some b53)))), (14, .a (.v (.map (some b54)))), (15, .a (.v (.int .i64 ((missL ([]) (idl tb) : Nat))))), (64, .a (.v (.pointer (some ⟨rb, 0, none⟩))))], [⟨rb, true, .iter b53 clock ([]) clock⟩, ⟨b53, true, .nsetb (idl ta) bs clock⟩, ⟨b54, true, .nset (idl tb)⟩]⟩ ⟨rfl, (Slots.cons rfl (by first | exact .refl _ | exact .nilOwn _ _ | exact .nilSl _ | exact .ownSl _ _ _  | exact SV.le.of_eq (by simp)) (Slots.cons rfl (by first | exact .refl _ | exact .nilOwn _ _ | exact .nilSl _ | exact .ownSl _ _ _  | exact SV.le.of_eq (by simp)) (Slots.cons rfl (by first | exact .refl _ | exact .nilOwn _ _ | exact .nilSl _ | exact .ownSl _ _ _  | exact SV.le.of_eq (by simp)) (Slots.cons rfl (by first | exact .refl _ | exact .nilOwn _ _ | exact .nilSl _ | exact .ownSl _ _ _  | exact SV.le.of_eq (by simp)) (Slots.cons rfl (by first | exact .refl _ | exact .nilOwn _ _ | exact .nilSl _ | exact .ownSl _ _ _  | exact SV.le.of_eq (by simp)) (Slots.cons rfl (by first | exact .refl _ | exact .nilOwn _ _ | exact .nilSl _ | exact .ownSl _ _ _  | exact SV.le.of_eq (by simp)) Slots.nil)))))), (by first | exact List.Sublist.refl _ | exact .cons_cons _ (.cons _ (.refl _)) | exact List.nil_sublist _ | exact .cons _ (.refl _) | exact .cons _ (.cons _ (.refl _)) | exact .cons _ (.cons _ (.cons _ (.refl _))) | exact .cons _ (.cons _ (.cons _ (.cons _ (.refl _)))) | exact .cons_cons _ (List.nil_sublist _))⟩ ⟨[], [], rfl, rfl, Vis.nil⟩ ?_
     rintro nn0 _ ⟨ps, seen, rfl, rfl, hv⟩
     refine awp_seq ?_
     refine awp_region ?_
     refine r_setNext 0 1 rfl rfl rfl rfl (fun hend => ?_) (fun q bq pq hpq hbq hnq => ?_)
     ·
      have hfin1 : missL ps (idl tb) = missL (idl ta) (idl tb) := missL_eq (hv.nodup hnda) hnda (fun p => ⟨fun h => hv.mem h, fun h => hv.all hbl hbn hend h⟩) (fun p => Iff.rfl)
      rw [hfin1]
      have hml1 := missL_le (idl ta) (idl tb)
      refine r_extract rfl rfl rfl ?_
      refine awl_nil ?_
      refine x_then ?_
      refine awp_seq ?_
      refine awp_condF rfl ?_
      refine awp_exit ?_
      refine x_thenE ?_
      refine x_thenE ?_
      refine x_blockE ?_
      refine x_then ?_
      refine awp_seq ?_
      refine awp_seq ?_
      refine awp_region ?_
      refine awl_imp (imp_setUnrange 1 rfl) ?_
      refine r_move rfl rfl ?_
      refine r_setRange 2 rfl rfl TF.map34 rfl (fun rb bs clock hbl hbn => ?_)
      refine awl_nil ?_
      refine x_then ?_
      refine awp_block ?_
      refine awp_loop (fun nn0 S => ∃ ps : List Nat, ∃ seen : List Nat, S = ⟨99, [(9, .a (encT ta)), (11, .a (encT tb)), (13, .a (.v (.map (some b53)))), (14, .a (.v (.map (some b54)))), (15, .a (.v (.int .i64 ((missL (idl ta) (idl tb) + missL ps (idl ta) : Nat))))), (76, .a (.v (.pointer (some ⟨rb, 0, none⟩))))], [⟨rb, true, .iter b54 clock seen clock⟩, ⟨b53, true, .nset (idl ta)⟩, ⟨b54, true, .nsetb (idl tb) bs clock⟩]⟩ ∧ nn0 = (idl tb).length - ps.length ∧ (Vis (idl tb) bs seen ps)) ((idl tb).length - ([]).length) ⟨99, [(9, .a (encT ta)), (11, .a (encT tb)), (13, .a (.v (.map (some b53)))), (14, .a (.v (.map (some b54)))), (15, .a (.v (.int .i64 ((missL (idl ta) (idl tb) + missL ([]) (idl ta) : Nat))))), (76, .a (.v (.pointer (some ⟨rb, 0, none⟩))))], [⟨rb, true, .iter b54 clock ([]) clock⟩, ⟨b53, true, .nset (idl ta)⟩, ⟨b54, true, .nsetb (idl tb) bs clock⟩]⟩ ⟨rfl, (Slots.cons rfl (by first | exact .refl _ | exact .nilOwn _ _ | exact .nilSl _ | exact .ownSl _ _ _  | exact SV.le.ownEq (by simp [missL]) | exact SV.le.of_eq (by simp [missL])) (Slots.cons rfl (by first | exact .refl _ | exact .nilOwn _ _ | exact .nilSl _ | exact .ownSl _ _ _  | exact SV.le.ownEq (by simp [missL]) | exact SV.le.of_eq (by simp [missL])) (Slots.cons rfl (by first | exact .refl _ | exact .nilOwn _ _ | exact .nilSl _ | exact .ownSl _ _ _  | exact SV.le.ownEq (by simp [missL]) | exact SV.le.of_eq (by simp [missL])) (Slots.cons rfl (by first | exact .refl _ | exact .nilOwn _ _ | exact .nilSl _ | exact .ownSl _ _ _  | exact SV.le.ownEq (by simp [missL]) | exact SV.le.of_eq (by simp [missL])) (Slots.cons rfl (by first | exact .refl _ | exact .nilOwn _ _ | exact .nilSl _ | exact .ownSl _ _ _  | exact SV.le.ownEq (by simp [missL]) | exact SV.le.of_eq (by simp [missL])) (Slots.cons rfl (by first | exact .refl _ | exact .nilOwn _ _ | exact .nilSl _ | exact .ownSl _ _ _  | exact SV.le.ownEq (by simp [missL]) | exact SV.le.of_eq (by simp [missL])) Slots.nil)))))), (by first | exact List.Sublist.refl _ | exact .cons_cons _ (.cons _ (.refl _)) | exact List.nil_sublist _ | exact .cons _ (.refl _) | exact .cons _ (.cons _ (.refl _)) | exact .cons _ (.cons _ (.cons _ (.refl _))) | exact .cons _ (.cons _ (.cons _ (.cons _ (.refl _)))) | exact .cons_cons _ (List.nil_sublist _))⟩ ⟨[], [], rfl, rfl, Vis.nil⟩ ?_
      rintro nn0 _ ⟨ps, seen, rfl, rfl, hv⟩
      refine awp_seq ?_
      refine awp_region ?_
      refine r_setNext 0 2 rfl rfl rfl rfl (fun hend => ?_) (fun q bq pq hpq hbq hnq => ?_)
      ·
       have hfin2 : missL ps (idl ta) = missL (idl tb) (idl ta) := missL_eq (hv.nodup hndb) hndb (fun p => ⟨fun h => hv.mem h, fun h => hv.all hbl hbn hend h⟩) (fun p => Iff.rfl)
       rw [hfin2]
       refine r_extract rfl rfl rfl ?_
       refine awl_nil ?_
       refine x_then ?_
       refine awp_seq ?_
       refine awp_condF rfl ?_
       refine awp_exit ?_
       refine x_thenE ?_
       refine x_thenE ?_
       refine x_blockE ?_
       refine x_then ?_
       refine awp_seq ?_
       refine awp_region ?_
       refine r_move rfl rfl ?_
       refine r_move rfl rfl ?_
       refine r_call0 hq rfl rfl (.cons (.ev rfl rfl) (.cons (.ev rfl rfl) .nil)) (Looked_ok ta tb hgta.wf hgtb.wf (good_ids hgta (x := X) (by omega)) (good_ids hgtb (x := Y) (by omega))) rfl TF.en19 rfl (fun r hr => ?_)
       obtain rfl := hr
       refine r_move rfl rfl ?_
       refine r_cmp rfl rfl rfl rfl ?_
       refine r_move rfl rfl ?_
       refine g_cases (t' := 92) rfl (fun hg92 => ?_) (fun hg92 => ?_)
       ·
        refine g_run rfl rfl hg92 ?_
        refine r_move rfl rfl ?_
        refine g_run rfl rfl hg92 ?_
        refine r_move rfl rfl ?_
        refine g_run rfl rfl hg92 ?_
        refine r_call0 hq rfl rfl (.cons (.ev rfl rfl) (.cons (.ev rfl rfl) .nil)) (Looked_ok tb ta hgtb.wf hgta.wf (good_ids hgtb (x := Y) (by omega)) (good_ids hgta (x := X) (by omega))) rfl TF.en19 rfl (fun r hr => ?_)
        obtain rfl := hr
        rw [look_comm tb ta]
        refine g_run rfl rfl hg92 ?_
        refine r_move rfl rfl ?_
        refine g_run rfl rfl hg92 ?_
        refine r_cmp rfl rfl rfl rfl ?_
        refine r_pickT rfl hg92 rfl rfl ?_
        refine r_assign rfl rfl ?_
        refine awl_nil ?_
        refine x_then ?_
        refine awp_ret ?_
        exact ⟨(.inl rfl), _, [], (.one (by first | exact .mk rfl rfl | exact .nil rfl)), ⟨rfl, by first | rfl | (unfold lookN boolA; simp; try rfl)⟩, (List.nil_sublist _), (by simp)⟩
       ·
        exfalso; unfold lookN at hg92; simp at hg92
      ·
       have hlt := hv.lt hpq hbq hnq
       have hv' := hv.next hpq hbq hnq
       have hml := missL_le ps (idl ta)
       obtain ⟨⟨sh, sn⟩, hsf, hss, hsp⟩ := subAt_some (t := tb) ((idl_mem tb pq).1 (List.mem_of_getElem? hpq))
       simp only at hsp
       refine r_extract rfl rfl rfl ?_
       refine awl_nil ?_
       refine x_then ?_
       refine awp_seq ?_
       refine awp_condT rfl ?_
       refine awp_skip ?_
       refine x_then ?_
       refine awp_block ?_
       refine awp_seq ?_
       refine awp_region ?_
       refine r_setEntry 0 2 rfl rfl rfl hpq hbq rfl ?_
       refine r_extract rfl rfl rfl ?_
       refine r_assign rfl rfl ?_
       refine awl_imp (imp_know 17 11 (z := enc sh sn) rfl rfl (fun C u v h1 h2 => by cases h2; rw [← hsp]; exact rel_subT h1 _ hss)) ?_
       refine awl_imp (imp_le 17 rfl (SV.le.avEq (enc_eq sh sn))) ?_
       refine awl_nil ?_
       refine x_then ?_
       refine awp_seq ?_
       refine awp_region ?_
       refine r_move rfl rfl ?_
       refine r_move rfl rfl ?_
       refine r_setHas 1 ptm34 rfl rfl rfl rfl ⟨_, _, _, rfl⟩ rfl ?_
       refine r_not rfl rfl ?_
       refine awl_nil ?_
       refine x_then ?_
       refine awp_cond rfl (fun hc5 => ?_) (fun hc5 => ?_)
       ·
        have hin : (if pq ∈ idl ta then 0 else 1) = 1 := if_neg (by have := hc5; simp at this; rw [← hsp]; exact this)
        refine awp_region ?_
        refine r_move rfl rfl ?_
        refine r_ari _ rfl rfl rfl (wrap_id (by first | omega | (simp; omega))) rfl ?_
        refine r_assign rfl rfl ?_
        refine awl_nil ?_
        refine x_block ?_
        refine x_then ?_
        refine ⟨(idl tb).length - (ps ++ [pq]).length, ⟨99, [(9, .a (encT ta)), (11, .a (encT tb)), (13, .a (.v (.map (some b53)))), (14, .a (.v (.map (some b54)))), (15, .a (.v (.int .i64 ((missL (idl ta) (idl tb) + missL (ps ++ [pq]) (idl ta) : Nat))))), (76, .a (.v (.pointer (some ⟨rb, 0, none⟩))))], [⟨rb, true, .iter b54 clock (seen ++ [bq]) clock⟩, ⟨b53, true, .nset (idl ta)⟩, ⟨b54, true, .nsetb (idl tb) bs clock⟩]⟩, ⟨rfl, (Slots.cons rfl (by first | exact .refl _ | exact .nilOwn _ _ | exact .nilSl _ | exact .ownSl _ _ _  | exact SV.le.ownEq (by rw [missL_snoc, hin]; simp; try omega) | exact SV.le.of_eq (by rw [missL_snoc, hin]; simp; try omega)) (Slots.cons rfl (by first | exact .refl _ | exact .nilOwn _ _ | exact .nilSl _ | exact .ownSl _ _ _  | exact SV.le.ownEq (by rw [missL_snoc, hin]; simp; try omega) | exact SV.le.of_eq (by rw [missL_snoc, hin]; simp; try omega)) (Slots.cons rfl (by first | exact .refl _ | exact .nilOwn _ _ | exact .nilSl _ | exact .ownSl _ _ _  | exact SV.le.ownEq (by rw [missL_snoc, hin]; simp; try omega) | exact SV.le.of_eq (by rw [missL_snoc, hin]; simp; try omega)) (Slots.cons rfl (by first | exact .refl _ | exact .nilOwn _ _ | exact .nilSl _ | exact .ownSl _ _ _  | exact SV.le.ownEq (by rw [missL_snoc, hin]; simp; try omega) | exact SV.le.of_eq (by rw [missL_snoc, hin]; simp; try omega)) (Slots.cons rfl (by first | exact .refl _ | exact .nilOwn _ _ | exact .nilSl _ | exact .ownSl _ _ _  | exact SV.le.ownEq (by rw [missL_snoc, hin]; simp; try omega) | exact SV.le.of_eq (by rw [missL_snoc, hin]; simp; try omega)) (Slots.cons rfl (by first | exact .refl _ | exact .nilOwn _ _ | exact .nilSl _ | exact .ownSl _ _ _  | exact SV.le.ownEq (by rw [missL_snoc, hin]; simp; try omega) | exact SV.le.of_eq (by rw [missL_snoc, hin]; simp; try omega)) Slots.nil)))))), (by first | exact List.Sublist.refl _ | exact .cons_cons _ (.cons _ (.refl _)) | exact List.nil_sublist _ | exact .cons _ (.refl _) | exact .cons _ (.cons _ (.refl _)) | exact .cons _ (.cons _ (.cons _ (.refl _))) | exact .cons _ (.cons _ (.cons _ (.cons _ (.refl _)))) | exact .cons_cons _ (List.nil_sublist _))⟩, (by simp; omega), ⟨ps ++ [pq], seen ++ [bq], rfl, rfl, hv'⟩⟩
       ·
        have hin : (if pq ∈ idl ta then 0 else 1) = 0 := if_pos (by have := hc5; simp at this; rw [← hsp]; exact this)
        refine awp_skip ?_
        refine x_block ?_
        refine x_then ?_
        refine ⟨(idl tb).length - (ps ++ [pq]).length, ⟨99, [(9, .a (encT ta)), (11, .a (encT tb)), (13, .a (.v (.map (some b53)))), (14, .a (.v (.map (some b54)))), (15, .a (.v (.int .i64 ((missL (idl ta) (idl tb) + missL (ps ++ [pq]) (idl ta) : Nat))))), (76, .a (.v (.pointer (some ⟨rb, 0, none⟩))))], [⟨rb, true, .iter b54 clock (seen ++ [bq]) clock⟩, ⟨b53, true, .nset (idl ta)⟩, ⟨b54, true, .nsetb (idl tb) bs clock⟩]⟩, ⟨rfl, (Slots.cons rfl (by first | exact .refl _ | exact .nilOwn _ _ | exact .nilSl _ | exact .ownSl _ _ _  | exact SV.le.ownEq (by rw [missL_snoc, hin]; simp; try omega) | exact SV.le.of_eq (by rw [missL_snoc, hin]; simp; try omega)) (Slots.cons rfl (by first | exact .refl _ | exact .nilOwn _ _ | exact .nilSl _ | exact .ownSl _ _ _  | exact SV.le.ownEq (by rw [missL_snoc, hin]; simp; try omega) | exact SV.le.of_eq (by rw [missL_snoc, hin]; simp; try omega)) (Slots.cons rfl (by first | exact .refl _ | exact .nilOwn _ _ | exact .nilSl _ | exact .ownSl _ _ _  | exact SV.le.ownEq (by rw [missL_snoc, hin]; simp; try omega) | exact SV.le.of_eq (by rw [missL_snoc, hin]; simp; try omega)) (Slots.cons rfl (by first | exact .refl _ | exact .nilOwn _ _ | exact .nilSl _ | exact .ownSl _ _ _  | exact SV.le.ownEq (by rw [missL_snoc, hin]; simp; try omega) | exact SV.le.of_eq (by rw [missL_snoc, hin]; simp; try omega)) (Slots.cons rfl (by first | exact .refl _ | exact .nilOwn _ _ | exact .nilSl _ | exact .ownSl _ _ _  | exact SV.le.ownEq (by rw [missL_snoc, hin]; simp; try omega) | exact SV.le.of_eq (by rw [missL_snoc, hin]; simp; try omega)) (Slots.cons rfl (by first | exact .refl _ | exact .nilOwn _ _ | exact .nilSl _ | exact .ownSl _ _ _  | exact SV.le.ownEq (by rw [missL_snoc, hin]; simp; try omega) | exact SV.le.of_eq (by rw [missL_snoc, hin]; simp; try omega)) Slots.nil)))))), (by first | exact List.Sublist.refl _ | exact .cons_cons _ (.cons _ (.refl _)) | exact List.nil_sublist _ | exact .cons _ (.refl _) | exact .cons _ (.cons _ (.refl _)) | exact .cons _ (.cons _ (.cons _ (.refl _))) | exact .cons _ (.cons _ (.cons _ (.cons _ (.refl _)))) | exact .cons_cons _ (List.nil_sublist _))⟩, (by simp; omega), ⟨ps ++ [pq], seen ++ [bq], rfl, rfl, hv'⟩⟩
     ·
      have hlt := hv.lt hpq hbq hnq
      have hv' := hv.next hpq hbq hnq
      have hml := missL_le ps (idl tb)
      obtain ⟨⟨sh, sn⟩, hsf, hss, hsp⟩ := subAt_some (t := ta) ((idl_mem ta pq).1 (List.mem_of_getElem? hpq))
      simp only at hsp
      refine r_extract rfl rfl rfl ?_
      refine awl_nil ?_
      refine x_then ?_
      refine awp_seq ?_
      refine awp_condT rfl ?_
      refine awp_skip ?_
      refine x_then ?_
      refine awp_block ?_
      refine awp_seq ?_
      refine awp_region ?_
      refine r_setEntry 0 1 rfl rfl rfl hpq hbq rfl ?_
      refine r_extract rfl rfl rfl ?_
      refine r_assign rfl rfl ?_
      refine awl_imp (imp_know 16 9 (z := enc sh sn) rfl rfl (fun C u v h1 h2 => by cases h2; rw [← hsp]; exact rel_subT h1 _ hss)) ?_
      refine awl_imp (imp_le 16 rfl (SV.le.avEq (enc_eq sh sn))) ?_
      refine awl_nil ?_
      refine x_then ?_
      refine awp_seq ?_
      refine awp_region ?_
      refine r_move rfl rfl ?_
      refine r_move rfl rfl ?_
      refine r_setHas 2 ptm34 rfl rfl rfl rfl ⟨_, _, _, rfl⟩ rfl ?_
      refine r_not rfl rfl ?_
      refine awl_nil ?_
      refine x_then ?_
      refine awp_cond rfl (fun hc3 => ?_) (fun hc3 => ?_)
      ·
       have hin : (if pq ∈ idl tb then 0 else 1) = 1 := if_neg (by have := hc3; simp at this; rw [← hsp]; exact this)
       refine awp_region ?_
       refine r_move rfl rfl ?_
       refine r_ari _ rfl rfl rfl (wrap_id (by first | omega | (simp; omega))) rfl ?_
       refine r_assign rfl rfl ?_
       refine awl_nil ?_
       refine x_block ?_
       refine x_then ?_
       refine ⟨(idl ta).length - (ps ++ [pq]).length, ⟨99, [(9, .a (encT ta)), (11, .a (encT tb)), (13, .a (.v (.map (some b53)))), (14, .a (.v (.map (some b54)))), (15, .a (.v (.int .i64 ((missL (ps ++ [pq]) (idl tb) : Nat))))), (64, .a (.v (.pointer (some ⟨rb, 0, none⟩))))], [⟨rb, true, .iter b53 clock (seen ++ [bq]) clock⟩, ⟨b53, true, .nsetb (idl ta) bs clock⟩, ⟨b54, true, .nset (idl tb)⟩]⟩, ⟨rfl, (Slots.cons rfl (by first | exact .refl _ | exact .nilOwn _ _ | exact .nilSl _ | exact .ownSl _ _ _  | exact SV.le.ownEq (by rw [missL_snoc, hin]; simp) | exact SV.le.of_eq (by rw [missL_snoc, hin]; simp)) (Slots.cons rfl (by first | exact .refl _ | exact .nilOwn _ _ | exact .nilSl _ | exact .ownSl _ _ _  | exact SV.le.ownEq (by rw [missL_snoc, hin]; simp) | exact SV.le.of_eq (by rw [missL_snoc, hin]; simp)) (Slots.cons rfl (by first | exact .refl _ | exact .nilOwn _ _ | exact .nilSl _ | exact .ownSl _ _ _  | exact SV.le.ownEq (by rw [missL_snoc, hin]; simp) | exact SV.le.of_eq (by rw [missL_snoc, hin]; simp)) (Slots.cons rfl (by first | exact .refl _ | exact .nilOwn _ _ | exact .nilSl _ | exact .ownSl _ _ _  | exact SV.le.ownEq (by rw [missL_snoc, hin]; simp) | exact SV.le.of_eq (by rw [missL_snoc, hin]; simp)) (Slots.cons rfl (by first | exact .refl _ | exact .nilOwn _ _ | exact .nilSl _ | exact .ownSl _ _ _  | exact SV.le.ownEq (by rw [missL_snoc, hin]; simp) | exact SV.le.of_eq (by rw [missL_snoc, hin]; simp)) (Slots.cons rfl (by first | exact .refl _ | exact .nilOwn _ _ | exact .nilSl _ | exact .ownSl _ _ _  | exact SV.le.ownEq (by rw [missL_snoc, hin]; simp) | exact SV.le.of_eq (by rw [missL_snoc, hin]; simp)) Slots.nil)))))), (by first | exact List.Sublist.refl _ | exact .cons_cons _ (.cons _ (.refl _)) | exact List.nil_sublist _ | exact .cons _ (.refl _) | exact .cons _ (.cons _ (.refl _)) | exact .cons _ (.cons _ (.cons _ (.refl _))) | exact .cons _ (.cons _ (.cons _ (.cons _ (.refl _)))) | exact .cons_cons _ (List.nil_sublist _))⟩, (by simp; omega), ⟨ps ++ [pq], seen ++ [bq], rfl, rfl, hv'⟩⟩
      ·
       have hin : (if pq ∈ idl tb then 0 else 1) = 0 := if_pos (by have := hc3; simp at this; rw [← hsp]; exact this)
       refine awp_skip ?_
       refine x_block ?_
       refine x_then ?_
       refine ⟨(idl ta).length - (ps ++ [pq]).length, ⟨99, [(9, .a (encT ta)), (11, .a (encT tb)), (13, .a (.v (.map (some b53)))), (14, .a (.v (.map (some b54)))), (15, .a (.v (.int .i64 ((missL (ps ++ [pq]) (idl tb) : Nat))))), (64, .a (.v (.pointer (some ⟨rb, 0, none⟩))))], [⟨rb, true, .iter b53 clock (seen ++ [bq]) clock⟩, ⟨b53, true, .nsetb (idl ta) bs clock⟩, ⟨b54, true, .nset (idl tb)⟩]⟩, ⟨rfl, (Slots.cons rfl (by first | exact .refl _ | exact .nilOwn _ _ | exact .nilSl _ | exact .ownSl _ _ _  | exact SV.le.ownEq (by rw [missL_snoc, hin]; simp) | exact SV.le.of_eq (by rw [missL_snoc, hin]; simp)) (Slots.cons rfl (by first | exact .refl _ | exact .nilOwn _ _ | exact .nilSl _ | exact .ownSl _ _ _  | exact SV.le.ownEq (by rw [missL_snoc, hin]; simp) | exact SV.le.of_eq (by rw [missL_snoc, hin]; simp)) (Slots.cons rfl (by first | exact .refl _ | exact .nilOwn _ _ | exact .nilSl _ | exact .ownSl _ _ _  | exact SV.le.ownEq (by rw [missL_snoc, hin]; simp) | exact SV.le.of_eq (by rw [missL_snoc, hin]; simp)) (Slots.cons rfl (by first | exact .refl _ | exact .nilOwn _ _ | exact .nilSl _ | exact .ownSl _ _ _  | exact SV.le.ownEq (by rw [missL_snoc, hin]; simp) | exact SV.le.of_eq (by rw [missL_snoc, hin]; simp)) (Slots.cons rfl (by first | exact .refl _ | exact .nilOwn _ _ | exact .nilSl _ | exact .ownSl _ _ _  | exact SV.le.ownEq (by rw [missL_snoc, hin]; simp) | exact SV.le.of_eq (by rw [missL_snoc, hin]; simp)) (Slots.cons rfl (by first | exact .refl _ | exact .nilOwn _ _ | exact .nilSl _ | exact .ownSl _ _ _  | exact SV.le.ownEq (by rw [missL_snoc, hin]; simp) | exact SV.le.of_eq (by rw [missL_snoc, hin]; simp)) Slots.nil)))))), (by first | exact List.Sublist.refl _ | exact .cons_cons _ (.cons _ (.refl _)) | exact List.nil_sublist _ | exact .cons _ (.refl _) | exact .cons _ (.cons _ (.refl _)) | exact .cons _ (.cons _ (.cons _ (.refl _))) | exact .cons _ (.cons _ (.cons _ (.cons _ (.refl _)))) | exact .cons_cons _ (List.nil_sublist _))⟩, (by simp; omega), ⟨ps ++ [pq], seen ++ [bq], rfl, rfl, hv'⟩⟩
end Go.Proofs.Ytljgdbgcleibjaa.A

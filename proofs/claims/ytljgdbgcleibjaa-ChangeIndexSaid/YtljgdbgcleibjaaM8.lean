import Derived.WalkKit
import Derived.Below
import Derived.Laws.Rows
import Derived.Laws.CopyRow
import Derived.Laws.AppendOwn
import Derived.RangeFuncLeaves
import Derived.RangeFuncSeq
import Derived.RangeFuncCalls
import Derived.MapKept
import Derived.Orders
import Derived.Laws.IdiomStrings
import Derived.Laws.BytesArg
import Derived.Shelf.SlIter.Nil
import Derived.RangeFuncBound
import Derived.Maps.RangeRun
import Derived.DeepKeys3
import Derived.Laws.StructEq
import Derived.Shelf.SlSortCmp.NoneTotal
import Derived.ChangeKeysEq
import Derived.Laws.MakeOwn
import Derived.ChangeArms
import Derived.ChangeOld
import Derived.Laws.DeepStrings4
import Derived.OpenShut
import Derived.Test.YtljgdbgcleibjaaProg
import Derived.KernelRfl
import Derived.OrdersIn
import Derived.Lib.AppendZeros
import Derived.Lib.AppendZerosOnto
import Derived.Lib.Overlaps
import Derived.Deep.AppendSrc
import Derived.Shelf.SlGeneric
import Derived.Ground.SlsfProg
import Derived.Scope
import Derived.Test.YtljgdbgcleibjaaM7
namespace Go.Proofs.Ytljgdbgcleibjaa.A
open Go Go.RowKit
set_option linter.unusedVariables false
set_option linter.unusedSimpArgs false
set_option maxRecDepth 100000
theorem TI.en27 : entersT Try.prog 27 := enters_of Try.func27 (by kernel_rfl) (by kernel_rfl)
theorem TI.en48 : entersT Try.prog 48 := enters_of Try.func48 (by kernel_rfl) (by kernel_rfl)
theorem TI.en37 : entersT Try.prog 37 := enters_of Try.func37 (by kernel_rfl) (by kernel_rfl)
theorem TI.zero4 : ZeroT Try.prog 4 [.v (.bool false)] := ⟨[(.bool false)], by kernel_rfl, (LeCells.refl _)⟩
theorem TI.en11 : entersT Try.prog 11 := enters_of Try.func11 (by kernel_rfl) (by kernel_rfl)
theorem TI.en26 : entersT Try.prog 26 := enters_of Try.func26 (by kernel_rfl) (by kernel_rfl)
theorem TI.zero60 : ZeroT Try.prog 60 [.v (.pointer none)] := ⟨[(.pointer none)], by kernel_rfl, (LeCells.refl _)⟩
theorem TI.sz60 : szT Try.prog 60 = some 1 := by kernel_rfl
theorem TI.zero67 : ZeroT Try.prog 67 [.v (.map none)] := ⟨[(.map none)], by kernel_rfl, (LeCells.refl _)⟩
theorem TI.sz67 : szT Try.prog 67 = some 1 := by kernel_rfl
theorem TI.en31 : entersT Try.prog 31 := enters_of Try.func31 (by kernel_rfl) (by kernel_rfl)
theorem TI.agg67 : aggT Try.prog 67 = some false := by kernel_rfl
theorem TI.map67 : mapT Try.prog 67 = some (47, 4) := by kernel_rfl
theorem TI.zero3 : ZeroT Try.prog 3 [.v (.int .i64 0)] := ⟨[(.int .i64 0)], by kernel_rfl, (LeCells.refl _)⟩
theorem TI.sz3 : szT Try.prog 3 = some 1 := by kernel_rfl
theorem TI.en20 : entersT Try.prog 20 := enters_of Try.func20 (by kernel_rfl) (by kernel_rfl)
theorem TI.un4 : Try.prog.underlying 4 = some .bool := by kernel_rfl
theorem TI.zav4 : ZeroAV Try.prog 4 (.v (.bool false)) := ⟨.v (.bool false), by kernel_rfl, .one (.refl _)⟩
theorem TI.agg3 : aggT Try.prog 3 = some false := by kernel_rfl
theorem flat47i : FlatT Try.prog 47 spK := ⟨by kernel_rfl, by kernel_rfl, by kernel_rfl, by kernel_rfl⟩
theorem keyS : KeyEnc Try.prog 47 ekS := keyEnc_flat flat47i Sp.vs (fun _ _ => Sp.vs_inj) Sp.kn
theorem sA_len {L : List It} {xs : List (List AV)} (h : xs = L.map sA) : L.take xs.length = L := by rw [h, List.length_map, List.take_length]
set_option maxHeartbeats 2000000 in
theorem index_walk (l m : List Ac) (hin1 : ∀ a ∈ l, Inr a.k) (hin2 : ∀ a ∈ m, Inr a.k) : AC Try.prog 10 [.sl 6 (l.map Ac.cs), .sl 6 (m.map Ac.cs)] [] (fun r n => n = [] ∧ r = boolA true) := by
 refine ac_of_awpG (fun S r => ResK Try.prog S (.cell 4 4) r) (nt := 85) Try.func10 rfl rfl rfl (resK1_run rfl) (fun w0 C0 hq => ?_)
 refine awp_seq ?_
 refine awp_region ?_
 refine r_alloc TI.zero4 rfl (fun b4 => ?_)
 refine awl_nil ?_
 refine x_then ?_
 refine awp_seq ?_
 refine awp_seq ?_
 refine awp_region ?_
 refine r_call0 hq rfl rfl .nil (awake_ok) rfl TI.en11 rfl (fun r hr => ?_)
 obtain rfl := hr
 refine r_not rfl rfl ?_
 refine awl_nil ?_
 refine x_then ?_
 refine awp_cond rfl (fun hc0 => ?_) (fun hc0 => ?_)
 ·
  exfalso; cases hc0
 ·
  refine awp_skip ?_
  refine x_then ?_
  refine awp_seq ?_
  refine awp_seq ?_
  refine awp_region ?_
  refine r_move rfl rfl ?_
  refine r_lenS rfl rfl TI.sl22 rfl ?_
  refine r_cmp rfl rfl rfl rfl ?_
  refine r_move rfl rfl ?_
  refine g_cases (t' := 22) rfl (fun hg22 => ?_) (fun hg22 => ?_)
  ·
   refine g_skip rfl rfl hg22 rfl ?_
   refine g_skip rfl rfl hg22 rfl ?_
   refine g_skip rfl rfl hg22 rfl ?_
   refine r_pickT rfl hg22 rfl rfl ?_
   refine awl_nil ?_
   refine x_then ?_
   refine awp_condT rfl ?_
   refine awp_seq ?_
   refine awp_region ?_
   refine r_store 0 rfl rfl rfl TI.sz4 rfl rfl rfl ?_
   refine awl_nil ?_
   refine x_then ?_
   refine awp_ret ?_
   refine x_thenR ?_
   exact ⟨(.inl rfl), _, [], (by first | exact .one 0 rfl rfl TI.agg4 | exact .one 1 rfl rfl TI.agg4 | exact .one 2 rfl rfl TI.agg4 | exact .one 3 rfl rfl TI.agg4 | exact .one 4 rfl rfl TI.agg4 | exact .one 5 rfl rfl TI.agg4 | exact .one 6 rfl rfl TI.agg4 | exact .one 7 rfl rfl TI.agg4), ⟨rfl, by first | rfl | (rw [hct]; show AV.v (Value.bool (_ == _)) = _; rw [beq_self_eq_true]; rfl)⟩, (List.nil_sublist _), (by simp)⟩
  ·
   have hl_l : l.length ≤ 40 := by have := of_decide_eq_false hg22; simp at this; omega
   refine g_run rfl rfl hg22 ?_
   refine r_move rfl rfl ?_
   refine g_run rfl rfl hg22 ?_
   refine r_lenS rfl rfl TI.sl22 rfl ?_
   refine g_run rfl rfl hg22 ?_
   refine r_cmp rfl rfl rfl rfl ?_
   refine r_pickF rfl hg22 rfl rfl ?_
   refine awl_nil ?_
   refine x_then ?_
   refine awp_cond rfl (fun hc1 => ?_) (fun hc1 => ?_)
   ·
    refine awp_seq ?_
    refine awp_region ?_
    refine r_store 0 rfl rfl rfl TI.sz4 rfl rfl rfl ?_
    refine awl_nil ?_
    refine x_then ?_
    refine awp_ret ?_
    refine x_thenR ?_
    exact ⟨(.inl rfl), _, [], (by first | exact .one 0 rfl rfl TI.agg4 | exact .one 1 rfl rfl TI.agg4 | exact .one 2 rfl rfl TI.agg4 | exact .one 3 rfl rfl TI.agg4 | exact .one 4 rfl rfl TI.agg4 | exact .one 5 rfl rfl TI.agg4 | exact .one 6 rfl rfl TI.agg4 | exact .one 7 rfl rfl TI.agg4), ⟨rfl, by first | rfl | (rw [hct]; show AV.v (Value.bool (_ == _)) = _; rw [beq_self_eq_true]; rfl)⟩, (List.nil_sublist _), (by simp)⟩
   ·
    have hl_m : m.length ≤ 20 := by have := of_decide_eq_false hc1; simp at this; omega
    refine awp_skip ?_
    refine x_then ?_
    refine awp_seq ?_
    refine awp_region ?_
    refine r_callO hq rfl rfl .nil (ixNew_ok) rfl TI.en26 (by first | exact List.Sublist.refl _ | exact .cons_cons _ (.cons _ (.refl _)) | exact List.nil_sublist _ | exact .cons _ (.refl _) | exact .cons _ (.cons _ (.refl _)) | exact .cons _ (.cons _ (.cons _ (.refl _))) | exact .cons _ (.cons _ (.cons _ (.cons _ (.refl _)))) | exact .cons_cons _ (List.nil_sublist _)) rfl (fun r nobjs hr => ?_)
    obtain ⟨g, rfl, rfl⟩ := hr
    refine r_alloc TI.zero60 rfl (fun b5 => ?_)
    refine r_store 0 rfl rfl rfl TI.sz60 rfl rfl rfl ?_
    refine awl_nil ?_
    refine x_then ?_
    refine awp_seq ?_
    refine awp_region ?_
    refine r_makeFunc rfl (.cons (.ev rfl rfl) .nil) rfl ?_
    refine r_assign rfl rfl ?_
    refine awl_nil ?_
    refine x_then ?_
    refine awp_seq ?_
    refine awp_region ?_
    refine r_move rfl rfl ?_
    refine r_move rfl rfl ?_
    refine r_callW hq [false, true, false] rfl rfl (.cons (.ev rfl rfl) .nil) (do_ok (some (none, 0)) [] Idx.new l (by simp; omega) hin1 b5 g true) rfl TI.en27 rfl rfl (.cons_cons _ (List.nil_sublist _)) rfl (fun r nobjs hr => ?_)
    obtain ⟨rfl, t1, X, rfl, hIX, hlX⟩ := hr
    obtain ⟨q1, rfl⟩ := hIX.so
    have hlX' : X.length ≤ 40 := by simp at hlX; omega
    refine awl_nil ?_
    refine x_then ?_
    refine awp_seq ?_
    refine awp_region ?_
    refine r_makeMap (ek := ekS) (ev := boolA) [] rfl rfl (fun b32 => ?_)
    refine r_load1b 2 rfl rfl rfl TI.agg60 rfl ?_
    refine r_callO hq rfl rfl (.cons (.ev rfl rfl) .nil) (Tree_ok q1 g true) rfl TI.en30 (.cons _ (.cons_cons _ (List.nil_sublist _))) rfl (fun r nobjs hr => ?_)
    obtain ⟨rfl, rfl⟩ := hr
    refine r_alloc TI.zero67 rfl (fun b7 => ?_)
    refine r_store 0 rfl rfl rfl TI.sz67 rfl rfl rfl ?_
    refine r_assign rfl rfl ?_
    refine awl_nil ?_
    refine x_then ?_
    refine awp_cut (fun S => S = ⟨85, [(1, .a (.sl 6 (m.map Ac.cs))), (4, .a (.v (.pointer (some ⟨b4, 0, none⟩)))), (5, .a (.v (.pointer (some ⟨b5, 0, none⟩)))), (6, .a (.fn 27 [.v (.pointer (some ⟨b5, 0, none⟩))])), (7, .a (.v (.pointer (some ⟨b7, 0, none⟩)))), (8, .a (encT (some q1)))], [⟨b7, true, .box [.v (.map (some b32))]⟩, ⟨b32, true, .map (encM ekS boolA (keyM X))⟩, ⟨g, true, .box [encT (some q1)]⟩, ⟨b5, true, .box [.v (.pointer (some ⟨g, 0, none⟩))]⟩, ⟨b4, true, .box [.v (.bool false)]⟩]⟩) ?_ ?_
    ·
     refine awp_seq ?_
     refine awp_region ?_
     refine r_load1b 3 rfl rfl rfl TI.agg60 rfl ?_
     refine r_callO hq rfl rfl (.cons (.ev rfl rfl) .nil) (All_ok q1 g true) rfl TI.en31 (.cons _ (.cons _ (.cons_cons _ (List.nil_sublist _)))) rfl (fun r nobjs hr => ?_)
     obtain ⟨rfl, rfl⟩ := hr
     refine awl_nil ?_
     refine x_then ?_
     refine awp_block ?_
     refine awp_rangeFuncS (fun pre wo => wo = [⟨b7, true, .box [.v (.map (some b32))]⟩, ⟨b32, true, .map (encM ekS boolA (keyM (X.take pre.length)))⟩, ⟨g, true, .box [encT (some q1)]⟩, ⟨b5, true, .box [.v (.pointer (some ⟨g, 0, none⟩))]⟩, ⟨b4, true, .box [.v (.bool false)]⟩]) (fun _ _ _ => False) [(7, .a (.v (.pointer (some ⟨b7, 0, none⟩))))] [true, true, true, true, true] hq rfl (All1_ok (some q1) X hIX) TI.en48 (fun pre x ⟨z, _, _, h⟩ => by subst h; rfl) rfl rfl rfl (by first | exact List.Sublist.refl _ | exact .cons_cons _ (.cons _ (.refl _)) | exact List.nil_sublist _ | exact .cons _ (.refl _) | exact .cons _ (.cons _ (.refl _)) | exact .cons _ (.cons _ (.cons _ (.refl _))) | exact .cons _ (.cons _ (.cons _ (.cons _ (.refl _)))) | exact .cons_cons _ (List.nil_sublist _)) (Slots.cons rfl (by first | exact .refl _ | exact .nilOwn _ _ | exact .nilSl _ | exact .ownSl _ _ _  | exact SV.le.of_eq (by simp)) Slots.nil) rfl rfl rfl ?_ ?_ ?_
     ·
      intro lr pre x wo rec busy w0 C0 hq hj hax
      obtain rfl := hj
      obtain ⟨z, hz, hpre, rfl⟩ := hax
      refine awpi_region ?_
      refine awli_op (fun c h => (by cases h)) ?_
      refine r_alloc TI.zero47 rfl (fun b9 => ?_)
      refine awl_nil ⟨rfl, ?_⟩
      refine awli_op (fun c h => (by cases h)) ?_
      refine r_store 0 rfl rfl rfl TI.sz47 rfl rfl rfl ?_
      refine awl_nil ⟨rfl, ?_⟩
      refine awli_nil ?_
      refine ⟨rfl, 6, rfl, ?_⟩
      refine awpi_block ?_
      refine awpi_region ?_
      refine awli_op (fun c h => (by cases h)) ?_
      refine r_load1b 1 rfl rfl rfl TI.agg67 rfl ?_
      refine awl_nil ⟨rfl, ?_⟩
      refine awli_op (fun c h => (by cases h)) ?_
      refine r_loadAb 0 rfl rfl TI.agg47 TI.sz47 rfl rfl ?_
      refine awl_nil ⟨rfl, ?_⟩
      refine awli_op (fun c h => (by cases h)) ?_
      refine r_mapUpdateK 2 keyS (ev := boolA) (k := z.1) _ rfl rfl rfl (isVal_sp z.1) rfl rfl TI.map67 ?_
      refine awl_nil ⟨rfl, ?_⟩
      refine awli_nil ?_
      refine x_block ?_
      have e1 : keyM (X.take (pre ++ [sA z]).length) = mset (keyM (X.take pre.length)) z.1 true := by rw [List.length_append, List.length_singleton, keyM_snoc hIX.good.st hz]
      refine ⟨[⟨b7, true, .box [.v (.map (some b32))]⟩, ⟨b32, true, .map (encM ekS boolA (mset (keyM (X.take pre.length)) z.1 true))⟩, ⟨g, true, .box [encT (some q1)]⟩, ⟨b5, true, .box [.v (.pointer (some ⟨g, 0, none⟩))]⟩, ⟨b4, true, .box [.v (.bool false)]⟩], .inl ⟨rfl, by show _ = _; rw [e1]⟩, ?_, by simp⟩
      exact .cons _ (List.Sublist.refl _)
     ·
      intro xs wo' hG hJ
      obtain rfl := hJ
      rw [sA_len hG]
      refine x_block ?_
      refine x_then ?_
      refine ⟨⟨85, [(1, .a (.sl 6 (m.map Ac.cs))), (4, .a (.v (.pointer (some ⟨b4, 0, none⟩)))), (5, .a (.v (.pointer (some ⟨b5, 0, none⟩)))), (6, .a (.fn 27 [.v (.pointer (some ⟨b5, 0, none⟩))])), (7, .a (.v (.pointer (some ⟨b7, 0, none⟩)))), (8, .a (encT (some q1)))], [⟨b7, true, .box [.v (.map (some b32))]⟩, ⟨b32, true, .map (encM ekS boolA (keyM X))⟩, ⟨g, true, .box [encT (some q1)]⟩, ⟨b5, true, .box [.v (.pointer (some ⟨g, 0, none⟩))]⟩, ⟨b4, true, .box [.v (.bool false)]⟩]⟩, ⟨rfl, (Slots.cons rfl (by first | exact .refl _ | exact .nilOwn _ _ | exact .nilSl _ | exact .ownSl _ _ _  | exact SV.le.of_eq (by simp)) (Slots.cons rfl (by first | exact .refl _ | exact .nilOwn _ _ | exact .nilSl _ | exact .ownSl _ _ _  | exact SV.le.of_eq (by simp)) (Slots.cons rfl (by first | exact .refl _ | exact .nilOwn _ _ | exact .nilSl _ | exact .ownSl _ _ _  | exact SV.le.of_eq (by simp)) (Slots.cons rfl (by first | exact .refl _ | exact .nilOwn _ _ | exact .nilSl _ | exact .ownSl _ _ _  | exact SV.le.of_eq (by simp)) (Slots.cons rfl (by first | exact .refl _ | exact .nilOwn _ _ | exact .nilSl _ | exact .ownSl _ _ _  | exact SV.le.of_eq (by simp)) (Slots.cons rfl (by first | exact .refl _ | exact .nilOwn _ _ | exact .nilSl _ | exact .ownSl _ _ _  | exact SV.le.of_eq (by simp)) Slots.nil)))))), (List.Sublist.refl _)⟩, rfl⟩
     ·
      intro c xs wo' hX
      exact hX.elim
    ·
     rintro _ ⟨rfl⟩
     refine awp_seq ?_
     refine awp_region ?_
     refine r_move rfl rfl ?_
     refine r_move rfl rfl ?_
     refine r_callW hq [false, false, true, false, false] rfl rfl (.cons (.ev rfl rfl) .nil) (do_ok (some q1) X hIX m (by omega) hin2 b5 g true) rfl TI.en27 rfl rfl (.cons _ (.cons _ (.cons_cons _ (List.nil_sublist _)))) rfl (fun r nobjs hr => ?_)
     obtain ⟨rfl, t2, Y, rfl, hIY, hlY⟩ := hr
     obtain ⟨q2, rfl⟩ := hIY.so
     have hlY' : Y.length ≤ 60 := by omega
     have hbl : (refBtw X Y).length ≤ X.length + Y.length := btwLen X Y X Y
     refine awl_nil ?_
     refine x_then ?_
     refine awp_seq ?_
     refine awp_region ?_
     refine r_alloc TI.zero3 rfl (fun b10 => ?_)
     refine r_store 0 rfl rfl rfl TI.sz3 rfl rfl rfl ?_
     refine awl_nil ?_
     refine x_then ?_
     refine awp_cut (fun S => S = ⟨85, [(4, .a (.v (.pointer (some ⟨b4, 0, none⟩)))), (5, .a (.v (.pointer (some ⟨b5, 0, none⟩)))), (7, .a (.v (.pointer (some ⟨b7, 0, none⟩)))), (10, .a (.v (.pointer (some ⟨b10, 0, none⟩))))], [⟨b10, true, .box [.v (.int .i64 (((refBtw X Y).length : Nat)))]⟩, ⟨g, true, .box [encT (some q2)]⟩, ⟨b7, true, .box [.v (.map (some b32))]⟩, ⟨b32, true, .map (encM ekS boolA (keyM X))⟩, ⟨b5, true, .box [.v (.pointer (some ⟨g, 0, none⟩))]⟩, ⟨b4, true, .box [.v (.bool false)]⟩]⟩) ?_ ?_
     ·
      refine awp_seq ?_
      refine awp_region ?_
      refine r_move rfl rfl ?_
      refine r_load1b 4 rfl rfl rfl TI.agg60 rfl ?_
      refine r_callO hq rfl rfl (.cons (.ev rfl rfl) .nil) (Tree_ok q2 g true) rfl TI.en30 (.cons _ (.cons_cons _ (List.nil_sublist _))) rfl (fun r nobjs hr => ?_)
      obtain ⟨rfl, rfl⟩ := hr
      refine r_call0 hq rfl rfl (.cons (.ev rfl rfl) (.cons (.ev rfl rfl) .nil)) (Between_ok (some q1) (some q2)) rfl TI.en20 rfl (fun r hr => ?_)
      obtain rfl := hr
      refine awl_nil ?_
      refine x_then ?_
      refine awp_block ?_
      refine awp_fact (φ := Coh (some q1) (some q2)) (fun C T a w hs => coh_of hIX.good.wf hIY.good.wf (hs.slots 8 (.a (encT (some q1))) rfl) (hs.slots 45 (.a (encT (some q2))) rfl)) (fun hcoh => ?_)
      have hch := chg_ref hcoh hIX.good hIY.good
      refine awp_rangeFuncS (fun pre wo => wo = [⟨b10, true, .box [.v (.int .i64 ((pre.length : Nat)))]⟩, ⟨g, true, .box [encT (some q2)]⟩, ⟨b7, true, .box [.v (.map (some b32))]⟩, ⟨b32, true, .map (encM ekS boolA (keyM X))⟩, ⟨b5, true, .box [.v (.pointer (some ⟨g, 0, none⟩))]⟩, ⟨b4, true, .box [.v (.bool false)]⟩]) (fun _ _ _ => False) [(5, .a (.v (.pointer (some ⟨b5, 0, none⟩)))), (7, .a (.v (.pointer (some ⟨b7, 0, none⟩)))), (10, .a (.v (.pointer (some ⟨b10, 0, none⟩))))] [true, true, true, true, true, true] hq rfl (Between1_ok (some q1) (some q2) hIX.good.wf hIY.good.wf (good_ids hIX.good (by omega)) (good_ids hIY.good (by omega)) (two_keys hIX.good hIY.good)) TI.en37 (fun pre x ⟨c, _, _, h⟩ => by subst h; rfl) rfl rfl rfl (by first | exact List.Sublist.refl _ | exact .cons_cons _ (.cons _ (.refl _)) | exact List.nil_sublist _ | exact .cons _ (.refl _) | exact .cons _ (.cons _ (.refl _)) | exact .cons _ (.cons _ (.cons _ (.refl _))) | exact .cons _ (.cons _ (.cons _ (.cons _ (.refl _)))) | exact .cons_cons _ (List.nil_sublist _)) (Slots.cons rfl (by first | exact .refl _ | exact .nilOwn _ _ | exact .nilSl _ | exact .ownSl _ _ _  | exact SV.le.of_eq (by simp)) (Slots.cons rfl (by first | exact .refl _ | exact .nilOwn _ _ | exact .nilSl _ | exact .ownSl _ _ _  | exact SV.le.of_eq (by simp)) (Slots.cons rfl (by first | exact .refl _ | exact .nilOwn _ _ | exact .nilSl _ | exact .ownSl _ _ _  | exact SV.le.of_eq (by simp)) Slots.nil))) rfl rfl rfl ?_ ?_ ?_
      ·
       intro lr pre x wo rec busy w0 C0 hq hj hax
       obtain rfl := hj
       obtain ⟨p, hpt, hpre, rfl⟩ := hax
       have hpl : pre.length < (chg (some q1) (some q2)).length := (List.getElem?_eq_some_iff.1 hpt).1
       rw [hch] at hpl hpt
       obtain ⟨hy1, hx1⟩ := ix_told hIX.ix hIY.ix (List.mem_of_getElem? hpt)
       refine awpi_seq ?_
       refine awpi_region ?_
       refine awli_op (fun c h => (by cases h)) ?_
       refine r_alloc TI.zero47 rfl (fun b11 => ?_)
       refine awl_nil ⟨rfl, ?_⟩
       refine awli_op (fun c h => (by cases h)) ?_
       refine r_store 0 rfl rfl rfl TI.sz47 rfl rfl rfl ?_
       refine awl_nil ⟨rfl, ?_⟩
       refine awli_nil ?_
       refine x_then ?_
       refine awpi_region ?_
       refine awli_op (fun c h => (by cases h)) ?_
       refine r_assign rfl rfl ?_
       refine awl_nil ⟨rfl, ?_⟩
       refine awli_nil ?_
       refine ⟨rfl, 7, rfl, ?_⟩
       refine awpi_block ?_
       refine awpi_seq ?_
       refine awpi_drawS [50, 51, 52, 53, 49, 54, 55, 13] [_, _, _, _, _, _, _, _] [] [] TI.mixed rfl rfl rfl ⟨⟨⟨⟨⟨⟨⟨⟨trivial
        , ⟨_, rfl, fun sl hd hr ho => by
          refine r_load1b 5 (hr 5 _ rfl rfl rfl) rfl rfl TI.agg60 rfl ?_
          exact awl_nil ⟨rfl, post_put⟩⟩⟩
        , ⟨_, rfl, fun sl hd hr ho => by
          refine r_callO hq rfl rfl (.cons (.ev (hd 0 _ rfl rfl rfl) rfl) .nil) (Tree_ok q2 g true) rfl TI.en30 (.cons _ (.cons _ (.cons_cons _ (List.nil_sublist _)))) rfl (fun r nobjs hr => ?_)
          obtain ⟨rfl, rfl⟩ := hr
          exact awl_nil ⟨rfl, post_put⟩⟩⟩
        , ⟨_, rfl, fun sl hd hr ho => by
          refine r_loadAb 0 (hr 11 _ rfl rfl rfl) rfl TI.agg47 TI.sz47 rfl rfl ?_
          exact awl_nil ⟨rfl, post_put⟩⟩⟩
        , ⟨_, rfl, fun sl hd hr ho => by
          refine r_call0 hq rfl rfl (.cons (.ev (hd 1 _ rfl rfl rfl) rfl) (.cons (.ev (hd 2 _ rfl rfl rfl) rfl) .nil)) (Get_ok (some q2) hIY.good.wf p.1) rfl TI.en22 rfl (fun r hr => ?_)
          obtain rfl := hr
          rw [good_get hIY.good]
          exact awl_nil ⟨rfl, post_put⟩⟩⟩
        , ⟨_, rfl, fun sl hd hr ho => by
          refine r_move (hd 3 _ rfl rfl rfl) rfl ?_
          exact awl_nil ⟨rfl, post_put⟩⟩⟩
        , ⟨_, rfl, fun sl hd hr ho => by
          refine r_extract (hd 4 _ rfl rfl rfl) rfl rfl ?_
          exact awl_nil ⟨rfl, post_put⟩⟩⟩
        , ⟨_, rfl, fun sl hd hr ho => by
          refine r_extract (hd 4 _ rfl rfl rfl) rfl rfl ?_
          exact awl_nil ⟨rfl, post_put⟩⟩⟩
        , ⟨_, rfl, fun sl hd hr ho => by
          refine r_assign (hd 5 _ rfl rfl rfl) rfl ?_
          exact awl_nil ⟨rfl, post_put⟩⟩⟩
        (by rfl) (by rfl) ?_
       refine awli_op (fun c h => (by cases h)) ?_
       refine r_assign rfl rfl ?_
       refine awl_nil ⟨rfl, ?_⟩
       refine awli_nil ?_
       refine x_then ?_
       refine awpi_seq ?_
       refine awpi_seq ?_
       refine awpi_region ?_
       refine awli_op (fun c h => (by cases h)) ?_
       refine r_move rfl rfl ?_
       refine awl_nil ⟨rfl, ?_⟩
       refine awli_op (fun c h => (by cases h)) ?_
       refine r_move rfl rfl ?_
       refine awl_nil ⟨rfl, ?_⟩
       refine awli_op (fun c h => (by cases h)) ?_
       refine r_bne rfl rfl TI.un4 rfl ?_
       refine awl_nil ⟨rfl, ?_⟩
       refine awli_op (fun c h => (by cases h)) ?_
       refine r_move rfl rfl ?_
       refine awl_nil ⟨rfl, ?_⟩
       refine gi_run rfl rfl (by rw [hy1]; simp) ?_
       refine awli_op (fun c h => (by cases h)) ?_
       refine r_load1b 3 rfl rfl rfl TI.agg67 rfl ?_
       refine awl_nil ⟨rfl, ?_⟩
       refine gi_run rfl rfl (by rw [hy1]; simp) ?_
       refine awli_op (fun c h => (by cases h)) ?_
       refine r_loadAb 0 rfl rfl TI.agg47 TI.sz47 rfl rfl ?_
       refine awl_nil ⟨rfl, ?_⟩
       refine gi_run rfl rfl (by rw [hy1]; simp) ?_
       refine awli_op (fun c h => (by cases h)) ?_
       refine r_lookupK 4 keyS (ev := boolA) (k := p.1) false rfl rfl rfl (isVal_sp p.1) TI.map67 TI.zav4 rfl ?_
       refine awl_nil ⟨rfl, ?_⟩
       refine gi_run rfl rfl (by rw [hy1]; simp) ?_
       refine awli_op (fun c h => (by cases h)) ?_
       refine r_move rfl rfl ?_
       refine awl_nil ⟨rfl, ?_⟩
       refine gi_run rfl rfl (by rw [hy1]; simp) ?_
       refine awli_op (fun c h => (by cases h)) ?_
       refine r_beq rfl rfl TI.un4 rfl ?_
       refine awl_nil ⟨rfl, ?_⟩
       refine awli_op (fun c h => (by cases h)) ?_
       refine r_pickF rfl (by rw [hy1]; simp) rfl rfl ?_
       refine awl_nil ⟨rfl, ?_⟩
       refine awli_nil ?_
       refine x_then ?_
       refine awpi_cond rfl (fun hc2 => ?_) (fun hc2 => ?_)
       ·
        exfalso; rw [keyM_get, hx1] at hc2; revert hc2; cases p.2 <;> decide
       ·
        refine awpi_skip ?_
        refine x_then ?_
        refine awpi_region ?_
        refine awli_op (fun c h => (by cases h)) ?_
        refine r_load1b 1 rfl rfl rfl TI.agg3 rfl ?_
        refine awl_nil ⟨rfl, ?_⟩
        refine awli_op (fun c h => (by cases h)) ?_
        refine r_ari ((pre.length + 1 : Nat) : Int) rfl rfl rfl (wrap_id (by omega)) rfl ?_
        refine awl_nil ⟨rfl, ?_⟩
        refine awli_op (fun c h => (by cases h)) ?_
        refine r_store 1 rfl rfl rfl TI.sz3 rfl rfl rfl ?_
        refine awl_nil ⟨rfl, ?_⟩
        refine awli_nil ?_
        refine x_block ?_
        have e1 : ((pre ++ [chA p]).length : Nat) = pre.length + 1 := by rw [List.length_append, List.length_singleton]
        refine ⟨[⟨b10, true, .box [.v (.int .i64 (((pre.length + 1 : Nat) : Int)))]⟩, ⟨g, true, .box [encT (some q2)]⟩, ⟨b7, true, .box [.v (.map (some b32))]⟩, ⟨b32, true, .map (encM ekS boolA (keyM X))⟩, ⟨b5, true, .box [.v (.pointer (some ⟨g, 0, none⟩))]⟩, ⟨b4, true, .box [.v (.bool false)]⟩], .inl ⟨rfl, by show _ = _; rw [e1]⟩, ?_, by simp⟩
        exact .cons _ (List.Sublist.refl _)
      ·
       intro xs wo' hG hJ
       obtain rfl := hJ
       have hxl : xs.length = (refBtw X Y).length := by rw [hG, List.length_map, hch]
       rw [hxl]
       refine x_block ?_
       refine x_then ?_
       refine ⟨⟨85, [(4, .a (.v (.pointer (some ⟨b4, 0, none⟩)))), (5, .a (.v (.pointer (some ⟨b5, 0, none⟩)))), (7, .a (.v (.pointer (some ⟨b7, 0, none⟩)))), (10, .a (.v (.pointer (some ⟨b10, 0, none⟩))))], [⟨b10, true, .box [.v (.int .i64 (((refBtw X Y).length : Nat)))]⟩, ⟨g, true, .box [encT (some q2)]⟩, ⟨b7, true, .box [.v (.map (some b32))]⟩, ⟨b32, true, .map (encM ekS boolA (keyM X))⟩, ⟨b5, true, .box [.v (.pointer (some ⟨g, 0, none⟩))]⟩, ⟨b4, true, .box [.v (.bool false)]⟩]⟩, ⟨rfl, (Slots.cons rfl (by first | exact .refl _ | exact .nilOwn _ _ | exact .nilSl _ | exact .ownSl _ _ _  | exact SV.le.of_eq (by simp)) (Slots.cons rfl (by first | exact .refl _ | exact .nilOwn _ _ | exact .nilSl _ | exact .ownSl _ _ _  | exact SV.le.of_eq (by simp)) (Slots.cons rfl (by first | exact .refl _ | exact .nilOwn _ _ | exact .nilSl _ | exact .ownSl _ _ _  | exact SV.le.of_eq (by simp)) (Slots.cons rfl (by first | exact .refl _ | exact .nilOwn _ _ | exact .nilSl _ | exact .ownSl _ _ _  | exact SV.le.of_eq (by simp)) Slots.nil)))), (List.Sublist.refl _)⟩, rfl⟩
      ·
       intro c xs wo' hX
       exact hX.elim
     ·
      rintro _ ⟨rfl⟩
      generalize hN : (refBtw X Y).length = N at hbl ⊢
      refine awp_seq ?_
      refine awp_region ?_
      refine r_alloc TI.zero3 rfl (fun b15 => ?_)
      refine r_store 0 rfl rfl rfl TI.sz3 rfl rfl rfl ?_
      refine awl_nil ?_
      refine x_then ?_
      refine awp_seq ?_
      refine awp_seq ?_
      refine awp_region ?_
      refine r_load1b 5 rfl rfl rfl TI.agg60 rfl ?_
      refine r_callO hq rfl rfl (.cons (.ev rfl rfl) .nil) (All_ok q2 g true) rfl TI.en31 (.cons _ (.cons _ (.cons_cons _ (List.nil_sublist _)))) rfl (fun r nobjs hr => ?_)
      obtain ⟨rfl, rfl⟩ := hr
      refine awl_nil ?_
      refine x_then ?_
      refine awp_block ?_
      refine awp_rangeFuncS (fun pre wo => wo = [⟨b15, true, .box [.v (.int .i64 ((newN X (Y.take pre.length) : Nat)))]⟩, ⟨b10, true, .box [.v (.int .i64 ((N : Nat)))]⟩, ⟨g, true, .box [encT (some q2)]⟩, ⟨b7, true, .box [.v (.map (some b32))]⟩, ⟨b32, true, .map (encM ekS boolA (keyM (remX X (Y.take pre.length))))⟩, ⟨b5, true, .box [.v (.pointer (some ⟨g, 0, none⟩))]⟩, ⟨b4, true, .box [.v (.bool false)]⟩]) (fun _ _ _ => False) [(7, .a (.v (.pointer (some ⟨b7, 0, none⟩)))), (15, .a (.v (.pointer (some ⟨b15, 0, none⟩))))] [true, true, true, true, true, true, true] hq rfl (All1_ok (some q2) Y hIY) TI.en48 (fun pre x ⟨z, _, _, h⟩ => by subst h; rfl) rfl rfl rfl (by first | exact List.Sublist.refl _ | exact .cons_cons _ (.cons _ (.refl _)) | exact List.nil_sublist _ | exact .cons _ (.refl _) | exact .cons _ (.cons _ (.refl _)) | exact .cons _ (.cons _ (.cons _ (.refl _))) | exact .cons _ (.cons _ (.cons _ (.cons _ (.refl _)))) | exact .cons_cons _ (List.nil_sublist _)) (Slots.cons rfl (by first | exact .refl _ | exact .nilOwn _ _ | exact .nilSl _ | exact .ownSl _ _ _  | exact SV.le.of_eq (by simp)) (Slots.cons rfl (by first | exact .refl _ | exact .nilOwn _ _ | exact .nilSl _ | exact .ownSl _ _ _  | exact SV.le.of_eq (by simp)) Slots.nil)) rfl rfl rfl ?_ ?_ ?_
      ·
       intro lr pre x wo rec busy w0 C0 hq hj hax
       obtain rfl := hj
       obtain ⟨z, hz, hpre, rfl⟩ := hax
       have hnl := newN_le X (Y.take pre.length)
       rw [List.length_take] at hnl
       have hst := remX_srt hIX.good.st (Y.take pre.length)
       have hlk := remX_look (x := X) hIY.good.st hz
       refine awpi_region ?_
       refine awli_op (fun c h => (by cases h)) ?_
       refine r_alloc TI.zero47 rfl (fun b16 => ?_)
       refine awl_nil ⟨rfl, ?_⟩
       refine awli_op (fun c h => (by cases h)) ?_
       refine r_store 0 rfl rfl rfl TI.sz47 rfl rfl rfl ?_
       refine awl_nil ⟨rfl, ?_⟩
       refine awli_nil ?_
       refine ⟨rfl, 8, rfl, ?_⟩
       refine awpi_block ?_
       refine awpi_seq ?_
       refine awpi_seq ?_
       refine awpi_region ?_
       refine awli_op (fun c h => (by cases h)) ?_
       refine r_load1b 4 rfl rfl rfl TI.agg67 rfl ?_
       refine awl_nil ⟨rfl, ?_⟩
       refine awli_op (fun c h => (by cases h)) ?_
       refine r_loadAb 0 rfl rfl TI.agg47 TI.sz47 rfl rfl ?_
       refine awl_nil ⟨rfl, ?_⟩
       refine awli_op (fun c h => (by cases h)) ?_
       refine r_lookupK 5 keyS (ev := boolA) (k := z.1) false rfl rfl rfl (isVal_sp z.1) TI.map67 TI.zav4 rfl ?_
       refine awl_nil ⟨rfl, ?_⟩
       refine awli_op (fun c h => (by cases h)) ?_
       refine r_not rfl rfl ?_
       refine awl_nil ⟨rfl, ?_⟩
       refine awli_nil ?_
       refine x_then ?_
       refine awpi_cond rfl (fun hc3 => ?_) (fun hc3 => ?_)
       ·
        have hnew : (look X z.1).isSome = false := by rw [keyM_get, hlk] at hc3; revert hc3; cases (look X z.1).isSome <;> decide
        refine awpi_region ?_
        refine awli_op (fun c h => (by cases h)) ?_
        refine r_load1b 1 rfl rfl rfl TI.agg3 rfl ?_
        refine awl_nil ⟨rfl, ?_⟩
        refine awli_op (fun c h => (by cases h)) ?_
        refine r_ari ((newN X (Y.take pre.length) + 1 : Nat) : Int) rfl rfl rfl (wrap_id (by omega)) rfl ?_
        refine awl_nil ⟨rfl, ?_⟩
        refine awli_op (fun c h => (by cases h)) ?_
        refine r_store 1 rfl rfl rfl TI.sz3 rfl rfl rfl ?_
        refine awl_nil ⟨rfl, ?_⟩
        refine awli_nil ?_
        refine x_then ?_
        refine awpi_region ?_
        refine awli_op (fun c h => (by cases h)) ?_
        refine r_load1b 4 rfl rfl rfl TI.agg67 rfl ?_
        refine awl_nil ⟨rfl, ?_⟩
        refine awli_op (fun c h => (by cases h)) ?_
        refine r_loadAb 0 rfl rfl TI.agg47 TI.sz47 rfl rfl ?_
        refine awl_nil ⟨rfl, ?_⟩
        refine awli_op (fun c h => (by cases h)) ?_
        refine r_deleteK 5 keyS (ev := boolA) (k := z.1) rfl rfl rfl (isVal_sp z.1) TI.map67 ?_
        refine awl_nil ⟨rfl, ?_⟩
        refine awli_nil ?_
        refine x_block ?_
        have e1 : newN X (Y.take (pre ++ [sA z]).length) = newN X (Y.take pre.length) + 1 := by rw [List.length_append, List.length_singleton, newN_snoc hz, hnew]; rfl
        have e2 : keyM (remX X (Y.take (pre ++ [sA z]).length)) = mdel (keyM (remX X (Y.take pre.length))) z.1 := by rw [List.length_append, List.length_singleton, remX_snoc hz, mdel_key hst]
        refine ⟨[⟨b15, true, .box [.v (.int .i64 (((newN X (Y.take pre.length) + 1 : Nat) : Int)))]⟩, ⟨b10, true, .box [.v (.int .i64 ((N : Nat)))]⟩, ⟨g, true, .box [encT (some q2)]⟩, ⟨b7, true, .box [.v (.map (some b32))]⟩, ⟨b32, true, .map (encM ekS boolA (mdel (keyM (remX X (Y.take pre.length))) z.1))⟩, ⟨b5, true, .box [.v (.pointer (some ⟨g, 0, none⟩))]⟩, ⟨b4, true, .box [.v (.bool false)]⟩], .inl ⟨rfl, by show _ = _; rw [e1, e2]⟩, ?_, by simp⟩
        exact .cons _ (List.Sublist.refl _)
       ·
        have hnew : (look X z.1).isSome = true := by rw [keyM_get, hlk] at hc3; revert hc3; cases (look X z.1).isSome <;> decide
        refine awpi_skip ?_
        refine x_then ?_
        refine awpi_region ?_
        refine awli_op (fun c h => (by cases h)) ?_
        refine r_load1b 4 rfl rfl rfl TI.agg67 rfl ?_
        refine awl_nil ⟨rfl, ?_⟩
        refine awli_op (fun c h => (by cases h)) ?_
        refine r_loadAb 0 rfl rfl TI.agg47 TI.sz47 rfl rfl ?_
        refine awl_nil ⟨rfl, ?_⟩
        refine awli_op (fun c h => (by cases h)) ?_
        refine r_deleteK 5 keyS (ev := boolA) (k := z.1) rfl rfl rfl (isVal_sp z.1) TI.map67 ?_
        refine awl_nil ⟨rfl, ?_⟩
        refine awli_nil ?_
        refine x_block ?_
        have e1 : newN X (Y.take (pre ++ [sA z]).length) = newN X (Y.take pre.length) + 0 := by rw [List.length_append, List.length_singleton, newN_snoc hz, hnew]; rfl
        have e2 : keyM (remX X (Y.take (pre ++ [sA z]).length)) = mdel (keyM (remX X (Y.take pre.length))) z.1 := by rw [List.length_append, List.length_singleton, remX_snoc hz, mdel_key hst]
        refine ⟨[⟨b15, true, .box [.v (.int .i64 ((newN X (Y.take pre.length) : Nat)))]⟩, ⟨b10, true, .box [.v (.int .i64 ((N : Nat)))]⟩, ⟨g, true, .box [encT (some q2)]⟩, ⟨b7, true, .box [.v (.map (some b32))]⟩, ⟨b32, true, .map (encM ekS boolA (mdel (keyM (remX X (Y.take pre.length))) z.1))⟩, ⟨b5, true, .box [.v (.pointer (some ⟨g, 0, none⟩))]⟩, ⟨b4, true, .box [.v (.bool false)]⟩], .inl ⟨rfl, by show _ = _; rw [e1, e2]; rfl⟩, ?_, by simp⟩
        exact .cons _ (List.Sublist.refl _)
      ·
       intro xs wo' hG hJ
       obtain rfl := hJ
       rw [sA_len hG]
       have hct := ix_count hIX.ix hIY.ix
       rw [hN] at hct
       have hnl := newN_le X Y
       refine x_block ?_
       refine x_then ?_
       refine awp_seq ?_
       refine awp_region ?_
       refine r_load1b 1 rfl rfl rfl TI.agg3 rfl ?_
       refine r_load1b 0 rfl rfl rfl TI.agg3 rfl ?_
       refine r_load1b 3 rfl rfl rfl TI.agg67 rfl ?_
       refine r_lenM 4 rfl rfl TI.map67 rfl ?_
       refine r_ari ((newN X Y + (keyM (remX X Y)).length : Nat) : Int) rfl rfl rfl (wrap_id (by omega)) rfl ?_
       refine r_cmp rfl rfl rfl rfl ?_
       refine r_store 6 rfl rfl rfl TI.sz4 rfl rfl rfl ?_
       refine awl_nil ?_
       refine x_then ?_
       refine awp_ret ?_
       exact ⟨(.inl rfl), _, [], (by first | exact .one 0 rfl rfl TI.agg4 | exact .one 1 rfl rfl TI.agg4 | exact .one 2 rfl rfl TI.agg4 | exact .one 3 rfl rfl TI.agg4 | exact .one 4 rfl rfl TI.agg4 | exact .one 5 rfl rfl TI.agg4 | exact .one 6 rfl rfl TI.agg4 | exact .one 7 rfl rfl TI.agg4), ⟨rfl, by first | rfl | (rw [hct]; show AV.v (Value.bool (_ == _)) = _; rw [beq_self_eq_true]; rfl)⟩, (List.nil_sublist _), (by simp)⟩
      ·
       intro c xs wo' hX
       exact hX.elim
theorem index_law (l m : List Ac) (h1 : ∀ a ∈ l, Inr a.k) (h2 : ∀ a ∈ m, Inr a.k) : AC Try.prog 10 [.sl 6 (l.map Ac.cs), .sl 6 (m.map Ac.cs)] [] (fun r n => n = [] ∧ r = boolA true) := index_walk l m h1 h2
end Go.Proofs.Ytljgdbgcleibjaa.A
namespace Go.Proofs.Ytljgdbgcleibjaa.A
open Go Go.RowKit
set_option linter.unusedVariables false
set_option linter.unusedSimpArgs false
set_option maxRecDepth 100000
theorem TR.f47_0 : fieldT Try.prog 47 0 = some (0, 44) := by kernel_rfl
theorem TR.f47_1 : fieldT Try.prog 47 1 = some (3, 45) := by kernel_rfl
theorem TR.sz47 : szT Try.prog 47 = some 4 := by kernel_rfl
theorem TR.sz44 : szT Try.prog 44 = some 3 := by kernel_rfl
theorem TR.sz45 : szT Try.prog 45 = some 1 := by kernel_rfl
theorem TR.f44_0 : fieldT Try.prog 44 0 = some (0, 3) := by kernel_rfl
theorem TR.f44_1 : fieldT Try.prog 44 1 = some (1, 3) := by kernel_rfl
theorem TR.f44_2 : fieldT Try.prog 44 2 = some (2, 3) := by kernel_rfl
theorem TR.sz3 : szT Try.prog 3 = some 1 := by kernel_rfl
theorem TR.un3 : Try.prog.underlying 3 = some (.int .i64) := by kernel_rfl
theorem TR.un45 : Try.prog.underlying 45 = some (.int .u64) := by kernel_rfl
theorem TR.f63_0 : fieldT Try.prog 63 0 = some (0, 4) := by kernel_rfl
theorem TR.f63_1 : fieldT Try.prog 63 1 = some (1, 47) := by kernel_rfl
theorem TR.f63_2 : fieldT Try.prog 63 2 = some (5, 45) := by kernel_rfl
theorem TR.sz63 : szT Try.prog 63 = some 6 := by kernel_rfl
theorem TR.sz4 : szT Try.prog 4 = some 1 := by kernel_rfl
theorem TR.un4 : Try.prog.underlying 4 = some .bool := by kernel_rfl
theorem TR.sl22 : sliceT Try.prog 22 = some 63 := by kernel_rfl
end Go.Proofs.Ytljgdbgcleibjaa.A
namespace Go.Proofs.Ytljgdbgcleibjaa.A
open Go Go.RowKit
set_option linter.unusedVariables false
set_option linter.unusedSimpArgs false
set_option maxRecDepth 100000
theorem rd_spotI : RD Try.prog 47 Sp.cs Inr := RD.map (rd_struct2 TR.f47_0 TR.f47_1 TR.sz47 TR.sz44 TR.sz45 (rd_struct3 TR.f44_0 TR.f44_1 TR.f44_2 TR.sz44 TR.sz3 TR.sz3 TR.sz3 (rd_int TR.un3) (rd_int TR.un3) (rd_int TR.un3)) (rd_int TR.un45)) (fun a => (⟨a.1.1, a.1.2.1, a.1.2.2, a.2⟩ : Sp)) (fun a g => by
  obtain ⟨⟨g0, g1, g2⟩, g3⟩ := g
  have e1 : IntKind.i64.min = -9223372036854775808 := by decide
  have e2 : IntKind.i64.max = 9223372036854775807 := by decide
  have e3 : IntKind.u64.min = 0 := by decide
  have e4 : IntKind.u64.max = 18446744073709551615 := by decide
  rw [e1, e2] at g0 g1 g2
  rw [e3, e4] at g3
  exact ⟨⟨g0, g1, g2, g3⟩, rfl⟩)
theorem rd_actI : RD Try.prog 63 Ac.cs (fun a => Inr a.k) := RD.map (rd_struct3 TR.f63_0 TR.f63_1 TR.f63_2 TR.sz63 TR.sz4 TR.sz47 TR.sz45 (rd_bool TR.un4) rd_spotI (rd_int TR.un45)) (fun a => (⟨a.1, a.2.1, a.2.2⟩ : Ac)) (fun a g => ⟨g.2.1, rfl⟩)
theorem rd_actsI : RD Try.prog 22 (fun l : List Ac => [AV.sl 6 (l.map Ac.cs)]) (fun l => ∀ a ∈ l, Inr a.k) := RD.map (rd_slice TR.sl22 TR.sz63 rd_actI (fun _ => rfl)) id (fun a g => ⟨g, rfl⟩)
end Go.Proofs.Ytljgdbgcleibjaa.A

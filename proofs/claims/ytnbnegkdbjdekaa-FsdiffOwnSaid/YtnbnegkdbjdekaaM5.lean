import Derived.WalkKit
import Derived.Below
import Derived.Laws.Rows
import Derived.Laws.CopyRow
import Derived.Laws.AppendOwn
import Derived.RangeFuncLeaves
import Derived.RangeFuncSeq
import Derived.RangeFuncCalls
import Derived.MapKept
import Derived.Orders
import Derived.Laws.IdiomStrings
import Derived.Laws.BytesArg
import Derived.Shelf.SlIter.Nil
import Derived.Shelf.SortM.Plain
import Derived.Shelf.SortM.SortNone
import Derived.Ground.GgzProg
import Derived.Ground.SlgmProg
import Derived.Test.YtnbnegkdbjdekaaProg
import Derived.KernelRfl
import Derived.RangeFuncBound
import Derived.Maps.RangeRun
import Derived.DeepKeys3
import Derived.Laws.StructEq
import Derived.Shelf.SlSortCmp.NoneTotal
import Derived.ChangeKeysEq
import Derived.Laws.MakeOwn
import Derived.ChangeArms
import Derived.ChangeOld
import Derived.Test.YtnbnegkdbjdekaaM4
namespace Go.Proofs.Ytnbnegkdbjdekaa.A
open Go Go.RowKit
set_option linter.unusedVariables false
set_option linter.unusedSimpArgs false
set_option maxRecDepth 100000
set_option linter.unusedSectionVars false
variable [Thr]
theorem TF.f36_0 : fieldT Try.prog 36 0 = some (0, 3) := by kernel_rfl
theorem TF.f36_1 : fieldT Try.prog 36 1 = some (1, 9) := by kernel_rfl
theorem TF.f36_2 : fieldT Try.prog 36 2 = some (2, 9) := by kernel_rfl
theorem TF.f36_3 : fieldT Try.prog 36 3 = some (3, 34) := by kernel_rfl
theorem same_ok (d : List FC) (hl : d.length ≤ 1000000) : AC Try.prog 12 [fcsA d, fcsA d] [] (fun r n => n = [] ∧ r = .v (.int .i64 1)) := by
 refine ac_of_awp (rs := [4]) (nt := 69) Try.func12 rfl rfl rfl rfl (fun w0 C0 hq => ?_)
 refine awp_seq ?_
 refine awp_region ?_
 refine r_assign rfl rfl ?_
 refine awl_nil ?_
 refine x_then ?_
 refine awp_seq ?_
 refine awp_seq ?_
 refine awp_region ?_
 refine r_move rfl rfl ?_
 first | (refine r_lenS rfl rfl TF.sl28 rfl ?_) | (refine r_lenNil rfl TF.sl28 rfl ?_) | (refine r_lenV rfl TF.sl28 rfl ?_)
 refine r_move rfl rfl ?_
 first | (refine r_lenS rfl rfl TF.sl30 rfl ?_) | (refine r_lenNil rfl TF.sl30 rfl ?_) | (refine r_lenV rfl TF.sl30 rfl ?_)
 refine r_cmp rfl rfl rfl rfl ?_
 refine awl_nil ?_
 refine x_then ?_
 refine awp_cond rfl (fun hc0 => ?_) (fun hc0 => ?_)
 ·
  exfalso; simp at hc0
 ·
  refine awp_skip ?_
  refine x_then ?_
  refine awp_seq ?_
  refine awp_seq ?_
  refine awp_region ?_
  refine r_move rfl rfl ?_
  first | (refine r_lenS rfl rfl TF.sl28 rfl ?_) | (refine r_lenNil rfl TF.sl28 rfl ?_) | (refine r_lenV rfl TF.sl28 rfl ?_)
  refine r_move rfl rfl ?_
  refine awl_nil ?_
  refine x_then ?_
  refine awp_block ?_
  refine awp_loop (fun nn0 S => ∃ k : Nat, S = ⟨69, [(0, .a (fcsA d)), (1, .a (fcsA d)), (12, .a (.v (.int .i64 ((d.map FC.cs).length)))), (13, .a (.v (.int .i64 ((k : Int)))))], []⟩ ∧ nn0 = d.length - k ∧ (k ≤ d.length)) (d.length - (0)) ⟨69, [(0, .a (fcsA d)), (1, .a (fcsA d)), (12, .a (.v (.int .i64 ((d.map FC.cs).length)))), (13, .a (.v (.int .i64 (((0) : Int)))))], []⟩ ⟨rfl, (Slots.cons rfl (by first | exact .refl _ | exact .nilOwn _ _ | exact .nilSl _ | exact .ownSl _ _ _  | exact SV.le.of_eq (by simp)) (Slots.cons rfl (by first | exact .refl _ | exact .nilOwn _ _ | exact .nilSl _ | exact .ownSl _ _ _  | exact SV.le.of_eq (by simp)) (Slots.cons rfl (by first | exact .refl _ | exact .nilOwn _ _ | exact .nilSl _ | exact .ownSl _ _ _  | exact SV.le.of_eq (by simp)) (Slots.cons rfl (by first | exact .refl _ | exact .nilOwn _ _ | exact .nilSl _ | exact .ownSl _ _ _  | exact SV.le.of_eq (by simp)) Slots.nil)))), (by first | exact List.Sublist.refl _ | exact .cons_cons _ (.cons _ (.refl _)) | exact List.nil_sublist _ | exact .cons _ (.refl _) | exact .cons _ (.cons _ (.refl _)) | exact .cons _ (.cons _ (.cons _ (.refl _))) | exact .cons _ (.cons _ (.cons _ (.cons _ (.refl _)))) | exact .cons_cons _ (List.nil_sublist _))⟩ ⟨0, rfl, rfl, Nat.zero_le _⟩ ?_
  rintro nn0 _ ⟨k, rfl, rfl, hk⟩
  refine awp_seq ?_
  refine awp_region ?_
  refine r_cmp rfl rfl rfl rfl ?_
  refine awl_nil ?_
  refine x_then ?_
  refine awp_seq ?_
  refine awp_cond rfl (fun hc1 => ?_) (fun hc1 => ?_)
  ·
   have hltx : k < d.length := by have := of_decide_eq_true hc1; simpa using this
   obtain ⟨x, hx⟩ := get_lt hltx
   refine awp_skip ?_
   refine x_then ?_
   refine awp_seq ?_
   refine awp_block ?_
   refine awp_seq ?_
   refine awp_region ?_
   refine r_move rfl rfl ?_
   refine r_assign rfl rfl ?_
   refine awl_nil ?_
   refine x_then ?_
   refine awp_seq ?_
   refine awp_drawS [16, 17, 18, 19, 20, 21, 22, 23, 24, 25, 26, 27, 28, 29, 30, 31, 32, 33, 34, 35, 36, 37, 38, 39, 40, 41, 42, 43, 44, 45, 46, 47, 48, 49, 50, 51, 52, 53, 54, 55, 56, 57, 58, 59, 60, 61, 62, 63, 64, 65] [_, _, _, _, _, _, _, _, _, _, _, _, _, _, _, _, _, _, _, _, _, _, _, _, _, _, _, _, _, _, _, _, _, _, _, _, _, _, _, _, _, _, _, _, _, _, _, _, _, _] [] [] TF.mixed rfl rfl rfl ⟨⟨⟨⟨⟨⟨⟨⟨⟨⟨⟨⟨⟨⟨⟨⟨⟨⟨⟨⟨⟨⟨⟨⟨⟨⟨⟨⟨⟨⟨⟨⟨⟨⟨⟨⟨⟨⟨⟨⟨⟨⟨⟨⟨⟨⟨⟨⟨⟨⟨trivial
    , ⟨_, rfl, fun sl hd hr ho => by
      refine r_move (hr 0 _ rfl rfl rfl) rfl ?_
      exact awl_nil ⟨rfl, post_put⟩⟩⟩
    , ⟨_, rfl, fun sl hd hr ho => by
      refine r_move (hr 5 _ rfl rfl rfl) rfl ?_
      exact awl_nil ⟨rfl, post_put⟩⟩⟩
    , ⟨_, rfl, fun sl hd hr ho => by
      refine r_index (hd 0 _ rfl rfl rfl) rfl (hd 1 _ rfl rfl rfl) TF.sl28 TF.sz50 (by omega) (get_map hx) rfl ?_
      exact awl_nil ⟨rfl, post_put⟩⟩⟩
    , ⟨_, rfl, fun sl hd hr ho => by
      first | (refine r_fieldcp (hd 2 _ rfl rfl rfl) TF.f50_0 TF.sz3 rfl ?_) | (refine r_fieldb (hd 2 _ rfl rfl rfl) TF.f50_0 TF.sz3 rfl ?_)
      exact awl_nil ⟨rfl, post_put⟩⟩⟩
    , ⟨_, rfl, fun sl hd hr ho => by
      refine r_load1 (hd 3 _ rfl rfl rfl) TF.agg3 rfl ?_
      exact awl_nil ⟨rfl, post_put⟩⟩⟩
    , ⟨_, rfl, fun sl hd hr ho => by
      refine r_move (hr 1 _ rfl rfl rfl) rfl ?_
      exact awl_nil ⟨rfl, post_put⟩⟩⟩
    , ⟨_, rfl, fun sl hd hr ho => by
      refine r_move (hr 5 _ rfl rfl rfl) rfl ?_
      exact awl_nil ⟨rfl, post_put⟩⟩⟩
    , ⟨_, rfl, fun sl hd hr ho => by
      refine r_index (hd 5 _ rfl rfl rfl) rfl (hd 6 _ rfl rfl rfl) TF.sl30 TF.sz36 (by omega) (get_map hx) rfl ?_
      exact awl_nil ⟨rfl, post_put⟩⟩⟩
    , ⟨_, rfl, fun sl hd hr ho => by
      first | (refine r_fieldcp (hd 7 _ rfl rfl rfl) TF.f36_0 TF.sz3 rfl ?_) | (refine r_fieldb (hd 7 _ rfl rfl rfl) TF.f36_0 TF.sz3 rfl ?_)
      exact awl_nil ⟨rfl, post_put⟩⟩⟩
    , ⟨_, rfl, fun sl hd hr ho => by
      refine r_load1 (hd 8 _ rfl rfl rfl) TF.agg3 rfl ?_
      exact awl_nil ⟨rfl, post_put⟩⟩⟩
    , ⟨_, rfl, fun sl hd hr ho => by
      refine r_cmp (hd 4 _ rfl rfl rfl) (hd 9 _ rfl rfl rfl) rfl rfl ?_
      exact awl_nil ⟨rfl, post_put⟩⟩⟩
    , ⟨_, rfl, fun sl hd hr ho => by
      refine r_move (hd 10 _ rfl rfl rfl) rfl ?_
      exact awl_nil ⟨rfl, post_put⟩⟩⟩
    , ⟨_, rfl, fun sl hd hr ho => by
      refine g_run rfl (hd 11 _ rfl rfl rfl) (by simp) ?_
      refine r_move (hr 0 _ rfl rfl rfl) rfl ?_
      exact awl_nil ⟨rfl, post_put⟩⟩⟩
    , ⟨_, rfl, fun sl hd hr ho => by
      refine g_run rfl (hd 11 _ rfl rfl rfl) (by simp) ?_
      refine r_move (hr 5 _ rfl rfl rfl) rfl ?_
      exact awl_nil ⟨rfl, post_put⟩⟩⟩
    , ⟨_, rfl, fun sl hd hr ho => by
      refine g_run rfl (hd 11 _ rfl rfl rfl) (by simp) ?_
      refine r_index (hd 12 _ rfl rfl rfl) rfl (hd 13 _ rfl rfl rfl) TF.sl28 TF.sz50 (by omega) (get_map hx) rfl ?_
      exact awl_nil ⟨rfl, post_put⟩⟩⟩
    , ⟨_, rfl, fun sl hd hr ho => by
      refine g_run rfl (hd 11 _ rfl rfl rfl) (by simp) ?_
      first | (refine r_fieldcp (hd 14 _ rfl rfl rfl) TF.f50_1 TF.sz9 rfl ?_) | (refine r_fieldb (hd 14 _ rfl rfl rfl) TF.f50_1 TF.sz9 rfl ?_)
      exact awl_nil ⟨rfl, post_put⟩⟩⟩
    , ⟨_, rfl, fun sl hd hr ho => by
      refine g_run rfl (hd 11 _ rfl rfl rfl) (by simp) ?_
      refine r_load1 (hd 15 _ rfl rfl rfl) TF.agg9 rfl ?_
      exact awl_nil ⟨rfl, post_put⟩⟩⟩
    , ⟨_, rfl, fun sl hd hr ho => by
      refine g_run rfl (hd 11 _ rfl rfl rfl) (by simp) ?_
      refine r_move (hr 1 _ rfl rfl rfl) rfl ?_
      exact awl_nil ⟨rfl, post_put⟩⟩⟩
    , ⟨_, rfl, fun sl hd hr ho => by
      refine g_run rfl (hd 11 _ rfl rfl rfl) (by simp) ?_
      refine r_move (hr 5 _ rfl rfl rfl) rfl ?_
      exact awl_nil ⟨rfl, post_put⟩⟩⟩
    , ⟨_, rfl, fun sl hd hr ho => by
      refine g_run rfl (hd 11 _ rfl rfl rfl) (by simp) ?_
      refine r_index (hd 17 _ rfl rfl rfl) rfl (hd 18 _ rfl rfl rfl) TF.sl30 TF.sz36 (by omega) (get_map hx) rfl ?_
      exact awl_nil ⟨rfl, post_put⟩⟩⟩
    , ⟨_, rfl, fun sl hd hr ho => by
      refine g_run rfl (hd 11 _ rfl rfl rfl) (by simp) ?_
      first | (refine r_fieldcp (hd 19 _ rfl rfl rfl) TF.f36_1 TF.sz9 rfl ?_) | (refine r_fieldb (hd 19 _ rfl rfl rfl) TF.f36_1 TF.sz9 rfl ?_)
      exact awl_nil ⟨rfl, post_put⟩⟩⟩
    , ⟨_, rfl, fun sl hd hr ho => by
      refine g_run rfl (hd 11 _ rfl rfl rfl) (by simp) ?_
      refine r_load1 (hd 20 _ rfl rfl rfl) TF.agg9 rfl ?_
      exact awl_nil ⟨rfl, post_put⟩⟩⟩
    , ⟨_, rfl, fun sl hd hr ho => by
      refine g_run rfl (hd 11 _ rfl rfl rfl) (by simp) ?_
      refine r_str2 (hd 16 _ rfl rfl rfl) (hd 21 _ rfl rfl rfl) rfl rfl ?_
      exact awl_nil ⟨rfl, post_put⟩⟩⟩
    , ⟨_, rfl, fun sl hd hr ho => by
      refine r_pickF (hd 11 _ rfl rfl rfl) (by simp) (hd 22 _ rfl rfl rfl) rfl ?_
      exact awl_nil ⟨rfl, post_put⟩⟩⟩
    , ⟨_, rfl, fun sl hd hr ho => by
      refine r_move (hd 23 _ rfl rfl rfl) rfl ?_
      exact awl_nil ⟨rfl, post_put⟩⟩⟩
    , ⟨_, rfl, fun sl hd hr ho => by
      refine g_run rfl (hd 24 _ rfl rfl rfl) (by simp) ?_
      refine r_move (hr 0 _ rfl rfl rfl) rfl ?_
      exact awl_nil ⟨rfl, post_put⟩⟩⟩
    , ⟨_, rfl, fun sl hd hr ho => by
      refine g_run rfl (hd 24 _ rfl rfl rfl) (by simp) ?_
      refine r_move (hr 5 _ rfl rfl rfl) rfl ?_
      exact awl_nil ⟨rfl, post_put⟩⟩⟩
    , ⟨_, rfl, fun sl hd hr ho => by
      refine g_run rfl (hd 24 _ rfl rfl rfl) (by simp) ?_
      refine r_index (hd 25 _ rfl rfl rfl) rfl (hd 26 _ rfl rfl rfl) TF.sl28 TF.sz50 (by omega) (get_map hx) rfl ?_
      exact awl_nil ⟨rfl, post_put⟩⟩⟩
    , ⟨_, rfl, fun sl hd hr ho => by
      refine g_run rfl (hd 24 _ rfl rfl rfl) (by simp) ?_
      first | (refine r_fieldcp (hd 27 _ rfl rfl rfl) TF.f50_2 TF.sz9 rfl ?_) | (refine r_fieldb (hd 27 _ rfl rfl rfl) TF.f50_2 TF.sz9 rfl ?_)
      exact awl_nil ⟨rfl, post_put⟩⟩⟩
    , ⟨_, rfl, fun sl hd hr ho => by
      refine g_run rfl (hd 24 _ rfl rfl rfl) (by simp) ?_
      refine r_load1 (hd 28 _ rfl rfl rfl) TF.agg9 rfl ?_
      exact awl_nil ⟨rfl, post_put⟩⟩⟩
    , ⟨_, rfl, fun sl hd hr ho => by
      refine g_run rfl (hd 24 _ rfl rfl rfl) (by simp) ?_
      refine r_move (hr 1 _ rfl rfl rfl) rfl ?_
      exact awl_nil ⟨rfl, post_put⟩⟩⟩
    , ⟨_, rfl, fun sl hd hr ho => by
      refine g_run rfl (hd 24 _ rfl rfl rfl) (by simp) ?_
      refine r_move (hr 5 _ rfl rfl rfl) rfl ?_
      exact awl_nil ⟨rfl, post_put⟩⟩⟩
    , ⟨_, rfl, fun sl hd hr ho => by
      refine g_run rfl (hd 24 _ rfl rfl rfl) (by simp) ?_
      refine r_index (hd 30 _ rfl rfl rfl) rfl (hd 31 _ rfl rfl rfl) TF.sl30 TF.sz36 (by omega) (get_map hx) rfl ?_
      exact awl_nil ⟨rfl, post_put⟩⟩⟩
    , ⟨_, rfl, fun sl hd hr ho => by
      refine g_run rfl (hd 24 _ rfl rfl rfl) (by simp) ?_
      first | (refine r_fieldcp (hd 32 _ rfl rfl rfl) TF.f36_2 TF.sz9 rfl ?_) | (refine r_fieldb (hd 32 _ rfl rfl rfl) TF.f36_2 TF.sz9 rfl ?_)
      exact awl_nil ⟨rfl, post_put⟩⟩⟩
    , ⟨_, rfl, fun sl hd hr ho => by
      refine g_run rfl (hd 24 _ rfl rfl rfl) (by simp) ?_
      refine r_load1 (hd 33 _ rfl rfl rfl) TF.agg9 rfl ?_
      exact awl_nil ⟨rfl, post_put⟩⟩⟩
    , ⟨_, rfl, fun sl hd hr ho => by
      refine g_run rfl (hd 24 _ rfl rfl rfl) (by simp) ?_
      refine r_str2 (hd 29 _ rfl rfl rfl) (hd 34 _ rfl rfl rfl) rfl rfl ?_
      exact awl_nil ⟨rfl, post_put⟩⟩⟩
    , ⟨_, rfl, fun sl hd hr ho => by
      refine r_pickF (hd 24 _ rfl rfl rfl) (by simp) (hd 35 _ rfl rfl rfl) rfl ?_
      exact awl_nil ⟨rfl, post_put⟩⟩⟩
    , ⟨_, rfl, fun sl hd hr ho => by
      refine r_move (hd 36 _ rfl rfl rfl) rfl ?_
      exact awl_nil ⟨rfl, post_put⟩⟩⟩
    , ⟨_, rfl, fun sl hd hr ho => by
      refine g_run rfl (hd 37 _ rfl rfl rfl) (by simp) ?_
      refine r_move (hr 0 _ rfl rfl rfl) rfl ?_
      exact awl_nil ⟨rfl, post_put⟩⟩⟩
    , ⟨_, rfl, fun sl hd hr ho => by
      refine g_run rfl (hd 37 _ rfl rfl rfl) (by simp) ?_
      refine r_move (hr 5 _ rfl rfl rfl) rfl ?_
      exact awl_nil ⟨rfl, post_put⟩⟩⟩
    , ⟨_, rfl, fun sl hd hr ho => by
      refine g_run rfl (hd 37 _ rfl rfl rfl) (by simp) ?_
      refine r_index (hd 38 _ rfl rfl rfl) rfl (hd 39 _ rfl rfl rfl) TF.sl28 TF.sz50 (by omega) (get_map hx) rfl ?_
      exact awl_nil ⟨rfl, post_put⟩⟩⟩
    , ⟨_, rfl, fun sl hd hr ho => by
      refine g_run rfl (hd 37 _ rfl rfl rfl) (by simp) ?_
      first | (refine r_fieldcp (hd 40 _ rfl rfl rfl) TF.f50_3 TF.sz34 rfl ?_) | (refine r_fieldb (hd 40 _ rfl rfl rfl) TF.f50_3 TF.sz34 rfl ?_)
      exact awl_nil ⟨rfl, post_put⟩⟩⟩
    , ⟨_, rfl, fun sl hd hr ho => by
      refine g_run rfl (hd 37 _ rfl rfl rfl) (by simp) ?_
      refine r_load1 (hd 41 _ rfl rfl rfl) TF.agg34 rfl ?_
      exact awl_nil ⟨rfl, post_put⟩⟩⟩
    , ⟨_, rfl, fun sl hd hr ho => by
      refine g_run rfl (hd 37 _ rfl rfl rfl) (by simp) ?_
      refine r_convBS x.data (hd 42 _ rfl rfl rfl) rfl TF.sl34 TF.un5 TF.un9 rfl ?_
      exact awl_nil ⟨rfl, post_put⟩⟩⟩
    , ⟨_, rfl, fun sl hd hr ho => by
      refine g_run rfl (hd 37 _ rfl rfl rfl) (by simp) ?_
      refine r_move (hr 1 _ rfl rfl rfl) rfl ?_
      exact awl_nil ⟨rfl, post_put⟩⟩⟩
    , ⟨_, rfl, fun sl hd hr ho => by
      refine g_run rfl (hd 37 _ rfl rfl rfl) (by simp) ?_
      refine r_move (hr 5 _ rfl rfl rfl) rfl ?_
      exact awl_nil ⟨rfl, post_put⟩⟩⟩
    , ⟨_, rfl, fun sl hd hr ho => by
      refine g_run rfl (hd 37 _ rfl rfl rfl) (by simp) ?_
      refine r_index (hd 44 _ rfl rfl rfl) rfl (hd 45 _ rfl rfl rfl) TF.sl30 TF.sz36 (by omega) (get_map hx) rfl ?_
      exact awl_nil ⟨rfl, post_put⟩⟩⟩
    , ⟨_, rfl, fun sl hd hr ho => by
      refine g_run rfl (hd 37 _ rfl rfl rfl) (by simp) ?_
      first | (refine r_fieldcp (hd 46 _ rfl rfl rfl) TF.f36_3 TF.sz34 rfl ?_) | (refine r_fieldb (hd 46 _ rfl rfl rfl) TF.f36_3 TF.sz34 rfl ?_)
      exact awl_nil ⟨rfl, post_put⟩⟩⟩
    , ⟨_, rfl, fun sl hd hr ho => by
      refine g_run rfl (hd 37 _ rfl rfl rfl) (by simp) ?_
      refine r_load1 (hd 47 _ rfl rfl rfl) TF.agg34 rfl ?_
      exact awl_nil ⟨rfl, post_put⟩⟩⟩
    , ⟨_, rfl, fun sl hd hr ho => by
      refine g_run rfl (hd 37 _ rfl rfl rfl) (by simp) ?_
      refine r_convBS x.data (hd 48 _ rfl rfl rfl) rfl TF.sl34 TF.un5 TF.un9 rfl ?_
      exact awl_nil ⟨rfl, post_put⟩⟩⟩
    (by rfl) ?_
   refine g_run rfl rfl (by simp) ?_
   refine r_str2 rfl rfl rfl rfl ?_
   refine r_pickF rfl (by simp) rfl rfl ?_
   refine awl_nil ?_
   refine x_then ?_
   refine awp_cond rfl (fun hc2 => ?_) (fun hc2 => ?_)
   ·
    exfalso; simp at hc2
   ·
    refine awp_skip ?_
    refine x_block ?_
    refine x_then ?_
    refine awp_region ?_
    refine r_ari _ rfl rfl rfl (wrap_id (by first | omega | (simp; omega))) rfl ?_
    refine r_move rfl rfl ?_
    refine awl_nil ?_
    refine x_then ?_
    refine ⟨d.length - (k + 1), ⟨69, [(0, .a (fcsA d)), (1, .a (fcsA d)), (12, .a (.v (.int .i64 ((d.map FC.cs).length)))), (13, .a (.v (.int .i64 (((k + 1) : Int)))))], []⟩, ⟨rfl, (Slots.cons rfl (by first | exact .refl _ | exact .nilOwn _ _ | exact .nilSl _ | exact .ownSl _ _ _  | exact SV.le.of_eq (by simp)) (Slots.cons rfl (by first | exact .refl _ | exact .nilOwn _ _ | exact .nilSl _ | exact .ownSl _ _ _  | exact SV.le.of_eq (by simp)) (Slots.cons rfl (by first | exact .refl _ | exact .nilOwn _ _ | exact .nilSl _ | exact .ownSl _ _ _  | exact SV.le.of_eq (by simp)) (Slots.cons rfl (by first | exact .refl _ | exact .nilOwn _ _ | exact .nilSl _ | exact .ownSl _ _ _  | exact SV.le.of_eq (by simp)) Slots.nil)))), (by first | exact List.Sublist.refl _ | exact .cons_cons _ (.cons _ (.refl _)) | exact List.nil_sublist _ | exact .cons _ (.refl _) | exact .cons _ (.cons _ (.refl _)) | exact .cons _ (.cons _ (.cons _ (.refl _))) | exact .cons _ (.cons _ (.cons _ (.cons _ (.refl _)))) | exact .cons_cons _ (List.nil_sublist _))⟩, (by omega), ⟨k + 1, rfl, rfl, (by omega)⟩⟩
  ·
   refine awp_exit ?_
   refine x_thenE ?_
   refine x_thenE ?_
   refine x_blockE ?_
   refine x_then ?_
   refine awp_seq ?_
   refine awp_region ?_
   refine r_assign rfl rfl ?_
   refine awl_nil ?_
   refine x_then ?_
   refine awp_ret ?_
   exact ⟨(.inl rfl), _, [], (.one (by first | exact .mk rfl rfl | exact .nil rfl)), ⟨rfl, rfl⟩, (List.nil_sublist _), (by simp)⟩
end Go.Proofs.Ytnbnegkdbjdekaa.A
namespace Go.Proofs.Ytnbnegkdbjdekaa.A
open Go Go.RowKit
set_option linter.unusedVariables false
set_option linter.unusedSimpArgs false
set_option maxRecDepth 100000
set_option linter.unusedSectionVars false
variable [Thr]
theorem TF.en9 : entersT Try.prog 9 := enters_of Try.func9 (by kernel_rfl) (by kernel_rfl)
theorem TF.en10 : entersT Try.prog 10 := enters_of Try.func10 (by kernel_rfl) (by kernel_rfl)
theorem TF.en11 : entersT Try.prog 11 := enters_of Try.func11 (by kernel_rfl) (by kernel_rfl)
theorem TF.en14 : entersT Try.prog 14 := enters_of Try.func14 (by kernel_rfl) (by kernel_rfl)
theorem TF.en12 : entersT Try.prog 12 := enters_of Try.func12 (by kernel_rfl) (by kernel_rfl)
theorem TF.en15 : entersT Try.prog 15 := enters_of Try.func15 (by kernel_rfl) (by kernel_rfl)
end Go.Proofs.Ytnbnegkdbjdekaa.A
namespace Go.Proofs.Ytnbnegkdbjdekaa.A
open Go Go.RowKit Go.Maps Go.Sort
set_option linter.unusedSectionVars false
variable [Thr]
set_option linter.unusedVariables false
set_option linter.unusedSimpArgs false
theorem look_app (l l' : List File) (s : ByteArray) : lookF (l ++ l') s = (lookF l s).or (lookF l' s) := by
  unfold lookF
  rw [List.find?_append]
  cases l.find? (fun f => decide (f.name = s)) <;> simp
theorem look_one (x : File) (s : ByteArray) : lookF [x] s = if x.name = s then some x.data else none := by
  unfold lookF
  by_cases h : x.name = s <;> simp [h]
theorem look_notin {l : List File} {s : ByteArray} (h : s ∉ l.map (·.name)) : lookF l s = none := by
  unfold lookF
  rw [List.find?_eq_none.2 (fun f hf => by simp; intro e; exact h (List.mem_map.2 ⟨f, hf, e⟩))]; rfl
theorem parts {now : List File} {i : Nat} {y : File} (h : now[i]? = some y) (hn : (now.map (·.name)).Nodup) :
    (∀ s, lookF now s = if y.name = s then some y.data else (lookF (now.take i) s).or (lookF (now.drop (i + 1)) s)) ∧ y.name ∉ (now.take i).map (·.name) ∧ y.name ∉ (now.drop (i + 1)).map (·.name) ∧ ((now.take i ++ now.drop (i + 1)).map (·.name)).Nodup := by
  have hi := (List.getElem?_eq_some_iff.1 h).1
  have e : now = now.take i ++ y :: now.drop (i + 1) := by
    have h4 : now.drop i = y :: now.drop (i + 1) := by rw [List.drop_eq_getElem_cons hi, (List.getElem?_eq_some_iff.1 h).2]
    rw [← h4, List.take_append_drop]
  have hp : (now.map (·.name)).Perm (y.name :: (now.take i ++ now.drop (i + 1)).map (·.name)) := by
    conv => lhs; rw [e]
    rw [List.map_append, List.map_cons, List.map_append]
    exact List.perm_middle
  have hn2 := hp.nodup_iff.1 hn
  rw [List.nodup_cons, List.map_append, List.mem_append] at hn2
  refine ⟨fun s => ?_, fun hh => hn2.1 (.inl hh), fun hh => hn2.1 (.inr hh), by rw [List.map_append]; exact hn2.2⟩
  have hs : lookF now s = lookF (now.take i ++ ([y] ++ now.drop (i + 1))) s := congrArg (lookF · s) e
  rw [hs, look_app, look_app, look_one]
  by_cases hy : y.name = s
  · subst hy
    rw [if_pos rfl, if_pos rfl, look_notin (fun hh => hn2.1 (.inl hh))]; rfl
  · rw [if_neg hy, if_neg hy]; rfl
end Go.Proofs.Ytnbnegkdbjdekaa.A
namespace Go.Proofs.Ytnbnegkdbjdekaa.A
open Go Go.RowKit
set_option linter.unusedSectionVars false
variable [Thr]
set_option linter.unusedVariables false
set_option linter.unusedSimpArgs false
set_option linter.unusedSectionVars false
variable {P : Program}
noncomputable def C0 (W : World) : CS := by
  classical
  exact fun b o => match W.cell? ⟨b, o, none⟩ with | some v => if v.oneCell' = true ∧ (PTC = true → isSl v = true → Plain W b) then some v else none | none => none
theorem C0_some {W : World} {b o : Nat} {v : Value} (h : W.cell? ⟨b, o, none⟩ = some v) (h1 : v.oneCell' = true) (h2 : PTC = true → isSl v = false) : C0 W b o = some v := by
  have : PTC = true → isSl v = true → Plain W b := fun g1 g2 => by rw [h2 g1] at g2; cases g2
  unfold C0; simp only [h]
  rw [if_pos ⟨h1, this⟩]
theorem com_C0 (W : World) (hW : THC = true → W.heap.size ≤ thr := by intro h; exact absurd h (by decide)) : Com (C0 W) W := by
  have key : ∀ b o v, W.cell? ⟨b, o, none⟩ = some v → (PTC = true → isSl v = true → Plain W b) → need b v = true → Plain W b := fun b o v hc h hn => by
    unfold need at hn
    rcases Bool.or_eq_true _ _ ▸ hn with hn | hn
    · obtain ⟨g1, g2⟩ := Bool.and_eq_true _ _ ▸ hn; exact h g1 g2
    · obtain ⟨g1, g2⟩ := Bool.and_eq_true _ _ ▸ hn
      obtain ⟨g3, g4⟩ := Bool.and_eq_true _ _ ▸ g1
      have h1 := hW g3; have h2 := Nat.le_of_ble_eq_true g2; have h3 := World.block_lt_of_cell? W _ hc
      simp only at h3; omega
  refine ⟨fun b o v h => ?_, fun b o v h => ?_⟩ <;> unfold C0 at h <;> split at h
  · rename_i u hu; split at h; rename_i h1; cases h; exact ⟨hu, fun _ => key _ _ _ hu h1.2⟩; cases h
  · cases h
  · rename_i u hu; split at h; rename_i h1; cases h; exact h1.1; cases h
  · cases h
def noSl : AV → Bool | .sl _ _ => false | .hi _ _ => false | .v x => !isSl x | _ => true
theorem noSl_rel {C : CS} {c : AV} {u : Value} (r : Rel C c u) (h : noSl c = true) : isSl u = false := by
  cases r <;> simp_all [noSl, isSl]
def RD (P : Program) (t : TypeId) {α : Type} (E : α → List AV) (G : α → Prop) : Prop :=
  ∀ {H : Type} (enc : TypeId × Value → H) (W : World) (fuel : Nat) (cs : List Value) (x : DataW H × List MemPlace), DataW.trod enc P W 0 (fun _ => true) true fuel t cs = some x →
    ∃ a, G a ∧ Rels (C0 W) (E a) cs ∧ (E a).all AV.one = true
theorem RD.map {t : TypeId} {α β : Type} {E : α → List AV} {G : α → Prop} {E' : β → List AV} {G' : β → Prop} (h : RD P t E G) (f : α → β) (hf : ∀ a, G a → G' (f a) ∧ E' (f a) = E a) : RD P t E' G' := by
  intro H enc W fuel cs x hx
  obtain ⟨a, h1, h2, h3⟩ := h enc W fuel cs x hx
  obtain ⟨g1, g2⟩ := hf a h1
  exact ⟨f a, g1, by rw [g2]; exact h2, by rw [g2]; exact h3⟩
theorem rd_int {t : TypeId} {k : IntKind} (ht : P.underlying t = some (.int k)) : RD P t (fun n : Int => [.v (.int k n)]) (fun n => k.min ≤ n ∧ n ≤ k.max) := by
  intro H enc W fuel cs x hx
  obtain ⟨n, rfl, _, hw⟩ := DataW.trod_int ht hx
  exact ⟨n, by simpa [Lit.wf] using hw, Rels.cons (Rel.v _) Rels.nil, rfl⟩
theorem rd_str {t : TypeId} (ht : P.underlying t = some .string) : RD P t (fun s : ByteArray => [.v (.string s)]) (fun _ => True) := by
  intro H enc W fuel cs x hx
  obtain ⟨n, rfl, _⟩ := DataW.trod_string ht hx
  exact ⟨n, trivial, Rels.cons (Rel.v _) Rels.nil, rfl⟩
theorem rd_u8 {t : TypeId} (ht : P.underlying t = some (.int .u8)) : RD P t (fun x : UInt8 => [.v (.int .u8 x.toNat)]) (fun _ => True) := by
  refine RD.map (rd_int ht) (fun n => UInt8.ofNat n.toNat) (fun n hn => ⟨trivial, ?_⟩)
  simp [IntKind.min, IntKind.max, IntKind.bits, IntKind.signed] at hn
  have : ((UInt8.ofNat n.toNat).toNat : Int) = n := by simp [UInt8.toNat_ofNat']; omega
  rw [this]
theorem cells_get {W : World} {a : Addr} {n : Nat} {cs : List Value} (h : W.cells? 0 a n = some cs) : cs.length = n ∧ ∀ j v, cs[j]? = some v → W.cell? (a.add j) = some v := by
  simp only [World.cells?, Nat.zero_le, if_true] at h
  have key : ∀ (l : List Nat) (cs : List Value), l.mapM (fun i => W.cell? (a.add i)) = some cs → cs.length = l.length ∧ ∀ (j : Nat) (v : Value), cs[j]? = some v → ∃ i : Nat, l[j]? = some i ∧ W.cell? (a.add i) = some v := by
    intro l
    induction l with
    | nil => intro cs h; simp at h; subst h; simp
    | cons i l ih =>
      intro cs h
      simp only [List.mapM_cons, Option.bind_eq_bind, Option.pure_def] at h
      cases h1 : W.cell? (a.add i) with
      | none => simp [h1] at h
      | some v =>
        cases h2 : l.mapM (fun i => W.cell? (a.add i)) with
        | none => simp [h1, h2] at h
        | some vs =>
          simp [h1, h2] at h
          subst h
          obtain ⟨g1, g2⟩ := ih vs h2
          refine ⟨by simp [g1], fun j u hj => ?_⟩
          cases j with
          | zero => simp at hj; subst hj; exact ⟨i, rfl, h1⟩
          | succ j => obtain ⟨i', k1, k2⟩ := g2 j u (by simpa using hj); exact ⟨i', by simpa using k1, k2⟩
  obtain ⟨h1, h2⟩ := key _ cs h
  refine ⟨by simpa using h1, fun j v hj => ?_⟩
  obtain ⟨i, k1, k2⟩ := h2 j v hj
  have : i = j := by
    have := (List.getElem?_eq_some_iff.1 k1).2; simpa using this.symm
  subst this; exact k2
theorem add_add (a : Addr) (i j : Nat) (hs : a.spot = none) : (a.add i).add j = ⟨a.block, a.off + i + j, none⟩ := by
  obtain ⟨b, o, s⟩ := a
  simp only at hs; subst hs
  rw [addr_add, addr_add]
theorem spot_none {W : World} {a : Addr} {i : Nat} {v : Value} (h : W.cell? (a.add i) = some v) : i = 0 → a.spot = none := by
  intro hi; subst hi
  simp only [Addr.add, if_true] at h
  unfold World.cell? at h
  split at h
  · split at h
    · cases h
    · rename_i hs; simpa using hs
  · cases h
theorem rd_slice {t e : TypeId} {α : Type} {E : α → List AV} {G : α → Prop} {sz : Nat} (ht : sliceT P t = some e) (hsz : szT P e = some (sz + 1)) (h : RD P e E G) (hE : ∀ a, (E a).length = sz + 1)
    (hns : PTC = true → ∀ a, (E a).all noSl = true := by first | (intro h; exact absurd h (by decide)) | (intro _ a; rfl) | (intro _ a; simp [noSl, isSl])) :
    RD P t (fun l : List α => [.sl (sz + 1) (l.map E)]) (fun l => ∀ x ∈ l, G x) := by
  intro H enc W fuel cs x hx
  have hc : P.cellsOf e = sz + 1 := by unfold szT at hsz; simp [Program.cellsOf, hsz]
  rcases DataW.trod_slice (sliceT_un ht) hx with ⟨rfl, _⟩ | ⟨a, len, cap, elems, rest, n, _, rfl, _, _, hlc, _, hel, hget, _⟩
  · exact ⟨[], by simp, Rels.cons (rel_sl_mk 0 0 rfl (Nat.le_refl _) (fun e => absurd rfl e) ⟨fun _ h => by simp at h, fun i cs j c h => by simp at h⟩) Rels.nil, rfl⟩
  · have hone : ∀ i, i < len → ∃ (y : α) (cs : List Value), G y ∧ Rels (C0 W) (E y) cs ∧ (E y).all AV.one = true ∧ W.cells? 0 (a.add (i * (sz + 1))) (sz + 1) = some cs := by
      intro i hi
      have hg := hget i hi
      rw [hc, List.getElem?_eq_getElem (by omega : i < elems.length)] at hg
      cases hcs : W.cells? 0 (a.add (i * (sz + 1))) (sz + 1) with
      | none => simp [hcs] at hg
      | some cs =>
        simp only [hcs, Option.bind_some] at hg
        obtain ⟨y, g1, g2, g3⟩ := h enc W n cs _ hg
        exact ⟨y, cs, g1, g2, g3, rfl⟩
    let f : Fin len → α := fun i => Classical.choose (hone i i.2)
    have hf : ∀ i : Fin len, ∃ cs : List Value, G (f i) ∧ Rels (C0 W) (E (f i)) cs ∧ (E (f i)).all AV.one = true ∧ W.cells? 0 (a.add (i * (sz + 1))) (sz + 1) = some cs := fun i => Classical.choose_spec (hone i i.2)
    have hl : (List.ofFn f).length = len := by simp
    refine ⟨List.ofFn f, fun y hy => ?_, Rels.cons ?_ Rels.nil, rfl⟩
    · obtain ⟨i, rfl⟩ := List.mem_ofFn.1 hy
      obtain ⟨cs, g1, _⟩ := hf i; exact g1
    · have hspot : len ≠ 0 → a.spot = none := by
        intro h0
        obtain ⟨cs, g1, g2, g3, g4⟩ := hf ⟨0, by omega⟩
        obtain ⟨k1, k2⟩ := cells_get g4
        obtain ⟨v, hv⟩ : ∃ v, cs[0]? = some v := ⟨_, List.getElem?_eq_getElem (by omega)⟩
        have := k2 0 v hv
        simp only [Nat.zero_mul] at this
        have h00 : (a.add 0) = a := by simp [Addr.add]
        rw [h00] at this
        exact spot_none this rfl
      refine rel_sl_mk a.block a.off (by simp) hlc (fun hne => ?_) ⟨fun cs hcs => ?_, fun i cs j c h1 h2 => ?_⟩
      · have h0 : len ≠ 0 := by intro h0; apply hne; rw [List.map_eq_nil_iff]; exact List.eq_nil_of_length_eq_zero (by omega)
        have := hspot h0
        obtain ⟨b, o, s⟩ := a; simp only at this; subst this; rfl
      · obtain ⟨y, _, rfl⟩ := List.mem_map.1 hcs; exact hE y
      · rw [List.getElem?_map] at h1
        have hi : i < len := by
          rcases Nat.lt_or_ge i len with h' | h'
          · exact h'
          · rw [List.getElem?_eq_none (by omega)] at h1; simp at h1
        rw [List.getElem?_eq_getElem (by omega : i < (List.ofFn f).length)] at h1
        simp at h1
        obtain ⟨cs', g1, g2, g3, g4⟩ := hf ⟨i, hi⟩
        subst h1
        obtain ⟨k1, k2⟩ := cells_get g4
        obtain ⟨u, hu, hr⟩ := g2.get h2
        have hcell := k2 j u hu
        rw [add_add a _ _ (hspot (by omega))] at hcell
        refine ⟨u, C0_some hcell (hr.one ?_) (fun hp => noSl_rel hr (List.all_eq_true.1 (hns hp _) c (List.mem_of_getElem? h2))), hr⟩
        exact List.all_eq_true.1 g3 c (List.mem_of_getElem? h2)
theorem fieldT_un {s f off ft : Nat} (hf : fieldT P s f = some (off, ft)) : ∃ fs x, P.underlying s = some (.struct fs) ∧ fs[f]? = some x ∧ x.offset = off ∧ x.type = ft := by
  unfold fieldT at hf
  cases hu : P.underlying s with
  | none => simp [hu] at hf
  | some d =>
    cases d with
    | struct fs =>
      cases hx : fs[f]? with
      | none => simp [hu, hx] at hf
      | some x => simp [hu, hx] at hf; exact ⟨fs, x, rfl, hx, hf.1, hf.2⟩
    | _ => simp [hu] at hf
theorem szT_cells {t n : Nat} (h : szT P t = some n) : P.cellsOf t = n := by unfold szT at h; simp [Program.cellsOf, h]
theorem field_trod {H : Type} {enc : TypeId × Value → H} {W : World} {fuel : Nat} {cs : List Value} {x : DataW H × List MemPlace} {t f off ft n : Nat} (hf : fieldT P t f = some (off, ft)) (hn : szT P ft = some n)
    (h : DataW.trod enc P W 0 (fun _ => true) true fuel t cs = some x) : cs.length = P.cellsOf t ∧ (∃ k y, DataW.trod enc P W 0 (fun _ => true) true k ft ((cs.drop off).take n) = some y) := by
  obtain ⟨fs, g, hu, hg, rfl, rfl⟩ := fieldT_un hf
  obtain ⟨xs, k, _, _, hl, hxs, hall⟩ := DataW.trod_struct hu h
  refine ⟨hl, k, ?_⟩
  have := hall f g hg
  rw [szT_cells hn] at this
  have hlt : f < xs.length := by have := (Array.getElem?_eq_some_iff.1 hg).1; omega
  exact ⟨xs[f], by rw [this]; exact List.getElem?_eq_getElem hlt⟩
theorem rd_struct2 {t t0 t1 n0 n1 : Nat} {α0 α1 : Type} {E0 : α0 → List AV} {E1 : α1 → List AV} {G0 : α0 → Prop} {G1 : α1 → Prop} (f0 : fieldT P t 0 = some (0, t0)) (f1 : fieldT P t 1 = some (n0, t1)) (hsz : szT P t = some (n0 + n1)) (c0 : szT P t0 = some n0) (c1 : szT P t1 = some n1) (r0 : RD P t0 E0 G0) (r1 : RD P t1 E1 G1) :
    RD P t (fun a : α0 × α1 => E0 a.1 ++ E1 a.2) (fun a => G0 a.1 ∧ G1 a.2) := by
  intro H enc W fuel cs x hx
  obtain ⟨hl0, k0, y0, hy0⟩ := field_trod f0 c0 hx
  obtain ⟨a0, g0, h0, o0⟩ := r0 enc W k0 _ y0 hy0
  obtain ⟨hl1, k1, y1, hy1⟩ := field_trod f1 c1 hx
  obtain ⟨a1, g1, h1, o1⟩ := r1 enc W k1 _ y1 hy1
  refine ⟨⟨a0, a1⟩, ⟨g0, g1⟩, ?_, by simp only [List.all_append, o0, o1, Bool.and_self]⟩
  rw [szT_cells hsz] at hl0
  have e : cs = (cs.drop (0)).take n0 ++ (cs.drop (n0)).take n1 := by
    apply List.ext_getElem?
    intro j
    simp only [List.getElem?_append, List.getElem?_take, List.getElem?_drop, List.length_append, List.length_take, List.length_drop, hl0]
    repeat' split
    all_goals first | (congr 1; omega) | omega | (rw [List.getElem?_eq_none (by omega)])
  rw [e]
  exact (h0).append h1
theorem RD.arg {t : TypeId} {α : Type} {E : α → List AV} {G : α → Prop} (h : RD P t E G) {H : Type} {enc : TypeId × Value → H} {W : World} {v : Value} {d : DataW H} {p : List MemPlace} (hv : DataW.Trod enc P W 0 (fun _ => true) true t v d p) (hna : v.cells = #[v]) {av : α → AV} (hE : ∀ a, E a = [av a]) :
    ∃ a, G a ∧ Rel (C0 W) (av a) v := by
  obtain ⟨fuel, hf⟩ := hv
  obtain ⟨a, h1, h2, h3⟩ := h enc W fuel _ _ hf
  rw [hE, hna] at h2
  exact ⟨a, h1, h2.2 0 _ _ rfl rfl⟩
end Go.Proofs.Ytnbnegkdbjdekaa.A
namespace Go.Proofs.Ytnbnegkdbjdekaa.A
open Go Go.RowKit
set_option linter.unusedSectionVars false
variable [Thr]
set_option linter.unusedVariables false
set_option linter.unusedSimpArgs false
set_option linter.unusedSectionVars false
variable {P : Program}
def RDS (P : Program) (t : TypeId) {α : Type} (E : α → List AV) (G : α → Prop) : Prop :=
  ∀ {H : Type} (enc : TypeId × Value → H) (W : World) (fuel : Nat) (cs : List Value) (x : DataW H × List MemPlace), DataW.trod enc P W 0 (fun _ => true) true fuel t cs = some x → (∀ k ∈ x.1.weights P t, k ≤ reachBytes) →
    ∃ a, G a ∧ Rels (C0 W) (E a) cs ∧ (E a).all AV.one = true
theorem RDS.of {t : TypeId} {α : Type} {E : α → List AV} {G : α → Prop} (h : RD P t E G) : RDS P t E G := fun enc W fuel cs x hx _ => h enc W fuel cs x hx
theorem RDS.map {t : TypeId} {α β : Type} {E : α → List AV} {G : α → Prop} {E' : β → List AV} {G' : β → Prop} (h : RDS P t E G) (f : α → β) (hf : ∀ a, G a → G' (f a) ∧ E' (f a) = E a) : RDS P t E' G' := by
  intro H enc W fuel cs x hx hw
  obtain ⟨a, h1, h2, h3⟩ := h enc W fuel cs x hx hw
  obtain ⟨g1, g2⟩ := hf a h1
  exact ⟨f a, g1, by rw [g2]; exact h2, by rw [g2]; exact h3⟩
theorem RDS.arg {t : TypeId} {α : Type} {E : α → List AV} {G : α → Prop} (h : RDS P t E G) {H : Type} {enc : TypeId × Value → H} {W : World} {v : Value} {d : DataW H} {p : List MemPlace} (hv : DataW.Trod enc P W 0 (fun _ => true) true t v d p) (hw : ∀ k ∈ d.weights P t, k ≤ reachBytes) (hna : v.cells = #[v]) {av : α → AV} (hE : ∀ a, E a = [av a]) :
    ∃ a, G a ∧ Rel (C0 W) (av a) v := by
  obtain ⟨fuel, hf⟩ := hv
  obtain ⟨a, h1, h2, h3⟩ := h enc W fuel _ _ hf hw
  rw [hE, hna] at h2
  exact ⟨a, h1, h2.2 0 _ _ rfl rfl⟩
end Go.Proofs.Ytnbnegkdbjdekaa.A
namespace Go.Proofs.Ytnbnegkdbjdekaa.A
open Go Go.RowKit
set_option linter.unusedVariables false
set_option linter.unusedSimpArgs false
set_option maxRecDepth 100000
set_option linter.unusedSectionVars false
variable [Thr]
theorem rd_bts : RD Try.prog 34 (fun l : List UInt8 => [bts l]) (fun _ => True) := RD.map (rd_slice TF.sl34 TF.sz5 (rd_u8 TF.un5) (fun _ => rfl)) id (fun a _ => ⟨trivial, rfl⟩)
theorem rd_file : RD Try.prog 54 File.cs (fun _ => True) := RD.map (rd_struct2 TF.f54_0 TF.f54_1 TF.sz54 TF.sz9 TF.sz34 (rd_str TF.un9) rd_bts) (fun a => (⟨a.1, a.2⟩ : File)) (fun a _ => ⟨trivial, rfl⟩)
theorem rd_files : RD Try.prog 22 (fun l : List File => [files l]) (fun _ => True) := RD.map (rd_slice TF.sl22 TF.sz54 rd_file (fun _ => rfl)) id (fun a _ => ⟨trivial, rfl⟩)
end Go.Proofs.Ytnbnegkdbjdekaa.A
namespace Go.Proofs.Ytnbnegkdbjdekaa.A
open Go Go.RowKit
set_option linter.unusedSectionVars false
variable [Thr]
set_option linter.unusedVariables false
set_option linter.unusedSimpArgs false
set_option linter.unusedSectionVars false
variable {P : Program} {w0 : Base} {C0 C : CS} {T : TS} {S S' : AState} {a : Act} {w : World} {ops : Array Oper} {rest : List Oper} {o : Oper} {Q : Exit → AState → Prop}
variable {t : Nat} {ty ty' : TypeId} {pos : String} {aft : Array Edge} {rn : Option Nat}
theorem imp_commitHi {Cs : CS} (hcs : CsOk Cs w0 C0) (i t : Nat) {g n cap sz e : Nat} {l : List (List AV)} (ht : S.get t = some (.a (.v (.slice (some ⟨g, 0, none⟩) n cap)))) (hn : n = l.length) (hi : S.objs[i]? = some ⟨g, true, .buf sz l cap e⟩) :
    Imp w0 C0 S (AState.put ⟨S.nt, S.slots, S.objs.eraseIdx i⟩ t (.a (.hi Cs (.sl sz l)))) := by
  rintro a w ⟨C, T, hs⟩
  have hv : a.tmps.getD t undef = .slice (some ⟨g, 0, none⟩) n cap := by
    have h : Rel C (.v _) (a.tmps.getD t undef) := hs.slots t _ ht
    generalize a.tmps.getD t undef = u at h
    cases h; rfl
  have hno : ∀ o', Cs g o' = none := fun o' => by
    cases h : Cs g o' with
    | none => rfl
    | some v =>
      obtain ⟨h1, h2, h3⟩ := hcs g o' v h
      have h4 := (hs.objs _ (mem_of_get hi)).2.1 o'
      simp only at h4
      rw [hs.old g o' h2 h3, h1] at h4; cases h4
  obtain ⟨C', T', hs'⟩ := imp_commitB i t ht hn hi a w ⟨C, T, hs⟩
  refine ⟨C', T', ⟨hs'.below, hs'.com, hs'.one, hs'.old, hs'.objs, hs'.apart, hs'.toks, hs'.tokne, hs'.size, ?_, hs'.defers, hs'.dr⟩⟩
  intro t' x hx
  have hx' : find t' ((t, SV.a (.hi Cs (.sl sz l))) :: S.slots) = some x := hx
  rw [find_cons] at hx'
  split at hx'
  · rename_i h; subst h; cases hx'
    have h1 : Rel C' (.sl sz l) (a.tmps.getD t undef) := hs'.slots t (.a (.sl sz l)) (by show find t ((t, SV.a (.sl sz l)) :: S.slots) = _; rw [find_cons, if_pos rfl])
    exact .hi h1 ⟨_, _, _, hv⟩ (fun b o p l' c hu _ => by rw [hv] at hu; cases hu; exact hno)
  · rename_i h; exact hs'.slots t' x (by show find t' ((t, SV.a (.sl sz l)) :: S.slots) = _; rw [find_cons, if_neg h]; exact hx')
def cellsOf : AObj → Nat → Option Value
  | .buf _ l _ _ => fun o => match l.flatten[o]? with | some (.v x) => some x | _ => none
  | .box cs => fun o => match cs[o]? with | some (.v x) => if x.oneCell' = true then some x else none | _ => none
  | .priv p => p
  | _ => fun _ => none
def CO : List OE → CS
  | [] => fun _ _ => none
  | e :: r => fun b o => if e.b = b then cellsOf e.o o else CO r b o
theorem co_mem {O : List OE} {b o : Nat} {v : Value} (h : CO O b o = some v) : ∃ e ∈ O, e.b = b ∧ cellsOf e.o o = some v := by
  induction O with
  | nil => cases h
  | cons e r ih =>
    simp only [CO] at h
    split at h
    · rename_i hb; exact ⟨e, List.mem_cons_self, hb, h⟩
    · obtain ⟨e', h1, h2⟩ := ih h; exact ⟨e', List.mem_cons_of_mem _ h1, h2⟩
theorem cellsOf_ok {b k : Nat} {ob : AObj} {v : Value} (h : ObjRel C b ob w) (hc : cellsOf ob k = some v) : w.cell? ⟨b, k, none⟩ = some v ∧ v.oneCell' = true ∧ Plain w b := by
  cases ob with
  | priv p => exact ⟨(h.2 k v hc).1, (h.2 k v hc).2, h.1⟩
  | buf sz l cap e =>
    obtain ⟨arr, h1, h2, h3, h4, vs, h5, h6, h7⟩ := h
    simp only [cellsOf] at hc
    split at hc
    · rename_i x hx; cases hc
      obtain ⟨u, g1, g2⟩ := h5.get hx
      cases g2
      refine ⟨?_, h6 _ (List.mem_of_getElem? g1), arr, e, h1⟩
      rw [cell_of_row w b _ arr e (0, 0) h1]
      rw [← h7, List.getElem?_take] at g1
      split at g1
      · simpa using g1
      · cases g1
    · cases hc
  | box cs =>
    obtain ⟨arr, t, h1, h2⟩ := h
    simp only [cellsOf] at hc
    split at hc
    · rename_i x hx
      split at hc
      · rename_i hone; cases hc
        obtain ⟨u, g1, g2⟩ := h2.get hx
        cases g2
        refine ⟨?_, hone, arr, t, h1⟩
        rw [cell_of_row w b _ arr t (0, 0) h1]
        simpa using g1
      · cases hc
    · cases hc
  | _ => cases hc
end Go.Proofs.Ytnbnegkdbjdekaa.A
namespace Go.Proofs.Ytnbnegkdbjdekaa.A
open Go Go.RowKit
set_option linter.unusedSectionVars false
variable [Thr]
set_option linter.unusedVariables false
set_option linter.unusedSimpArgs false
set_option linter.unusedSectionVars false
variable {P : Program} {w0 : Base} {C0 C : CS} {T : TS} {S S' : AState} {a : Act} {w : World} {ops : Array Oper} {rest : List Oper} {o : Oper} {Q : Exit → AState → Prop}
variable {t : Nat} {ty ty' : TypeId} {pos : String} {aft : Array Edge} {rn : Option Nat}
def RawAt (e : OE) (w : World) : Prop := ∃ (xs : List Value) (t : TypeId), e.o = .box (xs.map AV.v) ∧ w.heap[e.b]? = some (.cells xs.toArray t (0, 0))
theorem RawAt.rel {e : OE} (h : RawAt e w) : ObjRel C e.b e.o w := by
  obtain ⟨xs, t, h1, h2⟩ := h
  rw [h1]; exact ⟨xs.toArray, t, h2, by simpa using rels_vs xs⟩
def CX (O : List OE) (C : CS) : CS := fun b o => match C b o with | some v => some v | none => CO O b o
theorem cx_l {O : List OE} {b o : Nat} {v : Value} (h : C b o = some v) : CX O C b o = some v := by simp [CX, h]
theorem cx_r {O : List OE} {b o : Nat} {v : Value} (h0 : C b o = none) (h : CO O b o = some v) : CX O C b o = some v := by simp [CX, h0, h]
theorem cx_cases {O : List OE} {b o : Nat} {v : Value} (h : CX O C b o = some v) : C b o = some v ∨ CO O b o = some v := by
  cases hc : C b o with
  | some u => simp only [CX, hc] at h; exact .inl h
  | none => simp only [CX, hc] at h; exact .inr h
theorem com_cx (h : Com C w) {O : List OE} (ho : ∀ e ∈ O, ObjRel C e.b e.o w) : Com (CX O C) w := by
  refine ⟨fun b o v hc => ?_, fun b o v hc => ?_⟩
  · rcases cx_cases hc with h1 | h1
    · exact h.1 _ _ _ h1
    · obtain ⟨e, he, rfl, h2⟩ := co_mem h1
      obtain ⟨g1, g2, g3⟩ := cellsOf_ok (ho e he) h2
      exact ⟨g1, fun _ _ => g3⟩
  · rcases cx_cases hc with h1 | h1
    · exact h.2 _ _ _ h1
    · obtain ⟨e, he, rfl, h2⟩ := co_mem h1
      exact (cellsOf_ok (ho e he) h2).2.1
theorem rel_cx {O : List OE} (hn : ∀ e ∈ O, ∀ o, C e.b o = none) {c : AV} {v : Value} (h : Rel (CO O) c v) : Rel (CX O C) c v :=
  h.mono (fun b o u hu => by obtain ⟨e, he, rfl, _⟩ := co_mem hu; exact cx_r (hn e he o) hu)
theorem co_get {O : List OE} (hp : O.Pairwise (fun e e' => e.b ≠ e'.b)) {e : OE} (he : e ∈ O) {k : Nat} {v : Value} (h : cellsOf e.o k = some v) : CO O e.b k = some v := by
  induction O with
  | nil => simp at he
  | cons e' r ih =>
    obtain ⟨h1, h2⟩ := List.pairwise_cons.1 hp
    simp only [CO]
    rcases List.mem_cons.1 he with rfl | he'
    · rw [if_pos rfl]; exact h
    · rw [if_neg (h1 e he')]; exact ih h2 he'
inductive ArgX (O : List OE) (S : AState) : Operand → AV → Prop where
  | arg {x : Operand} {c : AV} (h : Arg S x c) : ArgX O S x c
  | raw {x : Operand} {c : AV} {v : Value} (h : S.ev x = some (.a (.v v))) (hr : Rel (CO O) c v) : ArgX O S x c
inductive ArgsX (O : List OE) (S : AState) : List Operand → List AV → Prop where
  | nil : ArgsX O S [] []
  | cons {x : Operand} {c : AV} {xs : List Operand} {cs : List AV} (h : ArgX O S x c) (r : ArgsX O S xs cs) : ArgsX O S (x :: xs) (c :: cs)
theorem ArgsX.rels (h : SimC w0 C0 C T S a w) {O : List OE} (hn : ∀ e ∈ O, ∀ o, C e.b o = none) {xs : List Operand} {cs : List AV} (hx : ArgsX O S xs cs) : Rels (CX O C) cs (xs.map a.eval) := by
  induction hx with
  | nil => exact Rels.nil
  | cons h1 _ ih =>
    refine Rels.cons ?_ ih
    cases h1 with
    | arg g => exact (g.rel h).mono (fun b o v hv => cx_l hv)
    | raw g hr => rw [h.evv g]; exact rel_cx hn hr
theorem awc_of_ac (Cs : CS) {f : FuncId} {args : List AV} {R : AV → List OE → Prop} (h : AC P f args [] R) : AWC Cs P f args [] [] R :=
  fun C w vals _ h1 h2 h3 => (h C w vals h1 h2 (by simpa using h3)).mono fun e w' ⟨v, C', r, n, g1, g2, g3, g4, g5, g6, g7, g8⟩ => ⟨v, C', r, n, g1, g2, BelowX.of g3, fun b o hb _ => g4 b o hb, g5, g6, g7, fun e he => .inl (g8 e he)⟩
def ConvX (Cs C' : CS) (w' : World) (n : Nat) (v : Value) (R2 : AV → List OE → Prop) : Prop :=
  ∃ r2 nobjs2, (∀ C, Rel C r2 v) ∧ (∀ e ∈ nobjs2, n ≤ e.b ∧ RawAt e w') ∧ nobjs2.Pairwise (fun e e' => e.b ≠ e'.b) ∧ R2 r2 nobjs2
theorem r_callX (hq : w0.q = false) (hth : thr ≤ w0.heap.size) (O : List OE) (R2 : AV → List OE → Prop) {x : Operand} {xs : List Operand} {xa : Array Operand} {tys : Array TypeId} {f : FuncId} {args : List AV} {R : CS → AV → List OE → Prop} (hx : S.ev x = some (.a (.fn f []))) (hxa : xa = xs.toArray) (hO : O.Sublist S.objs)
    (hargs : ArgsX O S xs args) (hc : ∀ Cs, AWC Cs P f args [] [] (R Cs)) (hen : entersT P f) (ht : Nat.blt t S.nt = true)
    (hconv : ∀ (Cs C' : CS) (w' : World) (n : Nat) (v : Value) (r : AV) (nobjs : List OE), R Cs r nobjs → Rel C' r v → Com C' w' → Objs C' nobjs w' → (∀ e ∈ nobjs, n ≤ e.b) → (∀ b o, b < n → C' b o = Cs b o) → thr ≤ n → ConvX Cs C' w' n v R2)
    (hr : ∀ r nobjs, R2 r nobjs → AWL P w0 C0 ops rest Q (AState.put ⟨S.nt, S.slots, nobjs ++ S.objs⟩ t (.a r))) :
    AWL P w0 C0 ops (⟨some t, .call ⟨.value x, xa, tys⟩, ty, pos, aft, none⟩ :: rest) Q S := by
  rintro a w ⟨C, T, hs⟩
  subst hxa
  have hf := hs.ev hx
  generalize hv : a.eval x = u at hf
  obtain ⟨arr, rfl⟩ : ∃ arr, u = .func (.func f) #[] arr := by cases hf; exact ⟨_, rfl⟩
  have hcaps := (rel_fn.1 hf).nil_inv
  obtain rfl : arr = #[] := by simpa using hcaps
  have hOm : ∀ e ∈ O, e ∈ S.objs := fun e he => hO.mem he
  have hOn : ∀ e ∈ O, ∀ o, C e.b o = none := fun e he => (hs.objs e (hOm e he)).2.1
  have hrels := hargs.rels hs hOn
  have hrun : (execOp a.eval ⟨some t, .call ⟨.value x, xs.toArray, tys⟩, ty, pos, aft, none⟩).run P w = .ok (.enter f (xs.map a.eval).toArray) w := by
    have : (xs.map a.eval).toArray = (xs.map a.eval).toArray ++ #[] := by simp
    rw [this]
    simp [execOp, resolve, invoke, hv, Deferred.ofValue, hen (xs.map a.eval).toArray w]
  have hcx : Com (CX O C) w := com_cx ⟨hs.com, hs.one⟩ (fun e he => (hs.objs e (hOm e he)).1)
  refine wpList_plain rfl (fun K hK => ?_)
  unfold Oper.wp
  rw [hrun]
  refine (hc (CX O C) (CX O C) w (xs.map a.eval).toArray (fun _ _ _ h => h) hcx (by simpa using hrels) ⟨by simp, by simp⟩).mono ?_
  rintro e w' ⟨v, C', r, nobjs, rfl, hR, hb, hC, hcom, hrel, hn, hnb⟩
  have hb' : Below w.heap.size w w' := ⟨hb.os, hb.tape, hb.output, hb.size, fun k hk => hb.block k hk wb_nil⟩
  obtain ⟨r2, n2, g1, g2, g3, g4⟩ := hconv _ C' w' w.heap.size v r nobjs hR hrel hcom hn (fun e he => (hnb e he).resolve_right wb_nil) (fun b o hb' => hC b o hb' wb_nil) (Nat.le_trans hth hs.below.size)
  have hlt : ∀ b o v, C b o = some v → b < w.heap.size := fun b o v hc => by have := World.block_lt_of_cell? w _ (hs.com _ _ _ hc).cell; simpa using this
  have hcom2 : Com C w' := ⟨com_keep hs.com (fun b o v hc => hb'.block b (hlt b o v hc)), hs.one⟩
  have hn2 : Objs C n2 w' := ⟨fun e he => ⟨(g2 e he).2.rel, fun o => hs.fresh (g2 e he).1 o⟩, g3⟩
  exact hK _ _ (hr r2 n2 g4 _ _ ⟨C, T, (hs.called hb' (fun h => by rw [hq] at h; cases h) (fun _ _ _ => rfl) hcom2 hn2 (fun e he => (g2 e he).1)).put ht (g1 C)⟩)
def ACw (w : World) (P : Program) (f : FuncId) (args : List AV) (R : AV → List OE → Prop) : Prop :=
  ∀ (C : CS) (vals : Array Value), Com C w → Rels C args vals.toList → Objs C [] w →
    Calls P f vals w (fun e w' => ∃ v C' r nobjs, e = .returned v ∧ R r nobjs ∧ Below w.heap.size w w' ∧ (∀ b o, b < w.heap.size → C' b o = C b o) ∧ Com C' w' ∧ Rel C' r v ∧ Objs C' nobjs w' ∧ ∀ e ∈ nobjs, w.heap.size ≤ e.b)
theorem ac_of_awpT {f : FuncId} {fn : Func} {c : Code} {args : List AV} {R : AV → List OE → Prop} {rs : List Nat} {nt : Nat} (hf : P.funcs[f]? = some fn) (hb : fn.body = some c) (hres : fn.results = (rs.map ResultVar.tmp).toArray) (hnt : fn.ntmps = nt) (hn : Nat.ble args.length nt = true)
    (h : ∀ w0 C0, w0.q = false → thr ≤ w0.heap.size → AWP P w0 C0 c (Ret R rs) ⟨nt, slotsOf 0 args, []⟩) {w : World} (hw : thr ≤ w.heap.size) : ACw w P f args R := by
  intro C vals h1 h2 h3
  have hw2 := awcq_at false (fun _ _ => none) (rd := []) (wo := []) (so := []) (R := R) (w := w) (fun S r => Result1 S rs r) hf hb hnt hn rfl (result1_run hres) (fun C0 _ => h ⟨w, WB [], false⟩ C0 rfl hw) C vals (fun _ _ _ h => by cases h) h1 h2 (by simpa using h3)
  refine hw2.mono ?_
  rintro e w' ⟨v, C', r, nobjs, rfl, hR, hb, hC, hcom, hrel, hn, hnb, hd⟩
  exact ⟨v, C', r, nobjs, rfl, hR, ⟨hb.os, hb.tape, hb.output, hb.size, fun k hk => hb.block k hk wb_nil⟩, fun b o hb' => hC b o hb' wb_nil, hcom, hrel, hn, fun e he => (hnb e he).resolve_right wb_nil⟩
end Go.Proofs.Ytnbnegkdbjdekaa.A
namespace Go.Proofs.Ytnbnegkdbjdekaa.A
open Go Go.RowKit
set_option linter.unusedSectionVars false
variable [Thr]
set_option linter.unusedVariables false
set_option linter.unusedSimpArgs false
set_option linter.unusedSectionVars false
variable {P : Program} {w0 : Base} {C0 C : CS} {T : TS} {S S' : AState} {a : Act} {w : World} {ops : Array Oper} {rest : List Oper} {o : Oper} {Q : Exit → AState → Prop}
variable {t : Nat} {ty ty' : TypeId} {pos : String} {aft : Array Edge} {rn : Option Nat}
theorem imp_le1 (t : Nat) {x y : AV} (hx : S.get t = some (.a x)) (hl : Le1 x y) : Imp w0 C0 S (S.put t (.a y)) := by
  rintro a w ⟨C, T, hs⟩
  refine ⟨C, T, hs.below, hs.com, hs.one, hs.old, hs.objs, hs.apart, hs.toks, hs.tokne, hs.size, ?_, hs.defers, hs.dr⟩
  intro t' z hz
  have hz' : find t' ((t, SV.a y) :: S.slots) = some z := hz
  rw [find_cons] at hz'
  split at hz'
  · rename_i h; subst h; cases hz'; exact hl.rel (hs.slots t _ hx)
  · exact hs.slots t' z hz'
def GrowB (sz : Nat) (l : List (List AV)) (r : AV) (n : List OE) : Prop :=
  (l = [] ∧ r = .v (.slice none 0 0) ∧ n = []) ∨ ∃ g cap e, r = .v (.slice (some ⟨g, 0, none⟩) l.length cap) ∧ n = [⟨g, true, .buf sz l cap e⟩]
theorem r_callH {Cs : CS} (hcs : CsOk Cs w0 C0) (hq : w0.q = false) {x : Operand} {xs : List Operand} {xa : Array Operand} {tys : Array TypeId} {f : FuncId} {args : List AV} {sz : Nat} {l : List (List AV)} (hx : S.ev x = some (.a (.fn f []))) (hxa : xa = xs.toArray) (hargs : Args S xs args) (hc : AC P f args [] (GrowB sz l))
    (hen : entersT P f) (ht : Nat.blt t S.nt = true) (hr : AWL P w0 C0 ops rest Q (S.put t (.a (.hi Cs (.sl sz l))))) :
    AWL P w0 C0 ops (⟨some t, .call ⟨.value x, xa, tys⟩, ty, pos, aft, none⟩ :: rest) Q S := by
  have hput : ∀ (S1 : AState) (x y : SV) (h : S1.put t x = S1.put t x), ∀ a w, Sim w0 C0 ((S1.put t x).put t y) a w → Sim w0 C0 (S1.put t y) a w := by
    rintro S1 x y _ a w ⟨C, T, hs⟩
    refine ⟨C, T, hs.below, hs.com, hs.one, hs.old, hs.objs, hs.apart, hs.toks, hs.tokne, hs.size, ?_, hs.defers, hs.dr⟩
    intro t' z hz
    have hz' : find t' ((t, y) :: S1.slots) = some z := hz
    refine hs.slots t' z ?_
    show find t' ((t, y) :: (t, x) :: S1.slots) = some z
    rw [find_cons] at hz' ⊢
    split at hz'
    · rename_i h; rw [if_pos h]; exact hz'
    · rename_i h; rw [if_neg h, find_cons, if_neg h]; exact hz'
  refine r_call hq hx hxa hargs hc (by simp) hen ObjsIn.nil ht ?_
  rintro r nobjs (⟨rfl, rfl, rfl⟩ | ⟨g, cap, e, rfl, rfl⟩)
  · refine awl_imp (imp_le1 t (by show find t ((t, _) :: _) = _; rw [find_cons, if_pos rfl]) (.hiNil Cs sz)) ?_
    exact fun a w hs => hr a w (hput S _ _ rfl a w hs)
  · refine awl_imp (imp_commitHi hcs 0 t (by show find t ((t, _) :: _) = _; rw [find_cons, if_pos rfl]) rfl rfl) ?_
    exact fun a w hs => hr a w (hput S _ _ rfl a w hs)
def ObjLe (o o' : AObj) : Prop := ∀ (C : CS) (b : Nat) (w : World), ObjRel C b o w → ObjRel C b o' w
theorem AC.le {f : FuncId} {args : List AV} {objs objs' : List OE} {R : AV → List OE → Prop} (h : AC P f args objs' R) (hb : objs'.map (·.b) = objs.map (·.b)) (hle : ∀ (i : Nat) (e e' : OE), objs[i]? = some e → objs'[i]? = some e' → ObjLe e.o e'.o) : AC P f args objs R := by
  intro C w vals h1 h2 h3
  refine h C w vals h1 h2 ⟨fun e' he' => ?_, ?_⟩
  · obtain ⟨i, hi⟩ := List.getElem?_of_mem he'
    have hbi : (objs'.map (·.b))[i]? = (objs.map (·.b))[i]? := by rw [hb]
    rw [List.getElem?_map, List.getElem?_map, hi] at hbi
    cases hoi : objs[i]? with
    | none => rw [hoi] at hbi; cases hbi
    | some e =>
      rw [hoi] at hbi
      have hbe : e'.b = e.b := by simpa using hbi
      obtain ⟨g1, g2⟩ := h3.1 e (List.mem_of_getElem? hoi)
      rw [hbe]; exact ⟨hle i e e' hoi hi C e.b w g1, g2⟩
  · exact List.pairwise_map.1 (hb ▸ List.pairwise_map.2 h3.2)
theorem objLe_map {es es' : List (Value × AV)} (hk : es'.map (·.1) = es.map (·.1)) (hv : ∀ (C : CS) vs, Rels C (es.map (·.2)) vs → Rels C (es'.map (·.2)) vs) : ObjLe (.map es) (.map es') := by
  rintro C b w ⟨ents, clock, h1, h2, h3, h4⟩
  exact ⟨ents, clock, h1, by rw [h2, hk], hv C _ h3, h4⟩
theorem awl_ownbufH (t : Nat) {tok sz : Nat} {l : List (List AV)} {lst : List Oper} (hg : S.get t = some (.own tok sz l)) (hflat : ∀ cs ∈ l, ∀ c ∈ cs, (∃ v, c = AV.v v ∧ noU8 v = true) ∨ ∃ Cs d, c = AV.hi Cs (.sl 1 (u8s d))) (htn : Nat.blt t S.nt = true)
    (h0 : l = [] → AWL P w0 C0 ops lst Q ⟨S.nt, [(t, .a (.v (.slice none 0 0)))], []⟩)
    (h1 : ∀ g cap e, AWL P w0 C0 ops lst Q ⟨S.nt, [(t, .a (.v (.slice (some ⟨g, 0, none⟩) l.length cap)))], [⟨g, true, .buf sz l cap e⟩]⟩) : AWL P w0 C0 ops lst Q S := by
  rintro a w ⟨C, T, hs⟩
  have hone : ∀ (u : Value) (S1 : List (Nat × SV)), S1 = [(t, .a (.v u))] → a.tmps.getD t undef = u → ∀ C T, ∀ t' x', find t' S1 = some x' → SRel C T x' (a.tmps.getD t' undef) := by
    intro u S1 e1 e2 C T t' x' hx'
    subst e1
    rw [find_cons] at hx'
    split at hx'
    · rename_i e; subst e; cases hx'; rw [e2]; exact srel_v _
    · cases hx'
  rcases hs.slots t _ hg with ⟨hl, hu⟩ | ⟨b, cap, e, hT, hcap, hu, hrow⟩
  · refine h0 hl a w ⟨C, fun _ => none, ?_⟩
    exact ⟨hs.below, hs.com, hs.one, hs.old, by simp, by simp, by simp, by simp, hs.size, hone _ _ rfl hu _ _, hs.defers, hs.dr⟩
  · refine h1 b cap e a w ⟨fun b' o => if b' = b then none else C b' o, fun _ => none, ?_⟩
    obtain ⟨⟨k1, k2, ⟨arr, k3, k4⟩, k5⟩, _⟩ := hs.toks _ _ hT
    simp only at k1 k2 k3 k4 k5
    have hfit : l.length * sz ≤ cap * sz := Nat.mul_le_mul_right _ hcap
    have hnb : ∀ o v, C b o = some v → noU8 v = true := by
      intro o v hv
      have ho : o < l.length * sz := Nat.lt_of_not_le fun h => by rw [k5 o h] at hv; cases hv
      rcases Nat.eq_zero_or_pos sz with hz0 | hz0
      · subst hz0; omega
      have hi : o / sz < l.length := by rw [Nat.div_lt_iff_lt_mul hz0]; exact ho
      obtain ⟨cs, hcs⟩ := get_lt hi
      have hcl := hrow.1 cs (List.mem_of_getElem? hcs)
      have hj : o % sz < cs.length := by rw [hcl]; exact Nat.mod_lt _ hz0
      obtain ⟨c, hc⟩ := get_lt hj
      obtain ⟨u, hu1, hu2⟩ := hrow.2 _ _ _ _ hcs hc
      rw [show 0 + o / sz * sz + o % sz = o by have := Nat.div_add_mod o sz; rw [Nat.mul_comm] at this; omega] at hu1
      rw [hv] at hu1; cases hu1
      rcases hflat cs (List.mem_of_getElem? hcs) c (List.mem_of_getElem? hc) with ⟨v', rfl, hv'⟩ | ⟨Cs, d, rfl⟩
      · cases hu2; exact hv'
      · cases hu2 with | hi _ hs _ => obtain ⟨A, n, c, rfl⟩ := hs; rfl
    have hkeep : ∀ (d : List UInt8) (u : Value), Rel C (.sl 1 (u8s d)) u → Rel (fun b' o => if b' = b then none else C b' o) (.sl 1 (u8s d)) u := by
      intro d u hr
      obtain ⟨A, cap', b', o', rfl, q1, q2, q3⟩ := rel_sl_inv hr
      by_cases hd : d = []
      · subst hd
        exact rel_sl_mk b' o' rfl q1 (fun h => absurd rfl h) ⟨by simp [u8s], fun i cs j c h => by simp [u8s] at h⟩
      · have hne : b' ≠ b := by
          intro hbb
          subst hbb
          obtain ⟨x, d', rfl⟩ := List.exists_cons_of_ne_nil hd
          obtain ⟨u1, hu1, hu2⟩ := q3.2 0 [.v (.int .u8 x.toNat)] 0 (.v (.int .u8 x.toNat)) rfl rfl
          cases hu2
          have := hnb _ _ hu1
          cases this
        refine rel_sl_mk b' o' rfl q1 q2 ⟨q3.1, fun i cs j c h h' => ?_⟩
        obtain ⟨u1, hu1, hu2⟩ := q3.2 i cs j c h h'
        refine ⟨u1, by simp only [hne, if_false]; exact hu1, ?_⟩
        obtain ⟨x, hx⟩ : ∃ x : UInt8, cs = [.v (.int .u8 x.toNat)] := by
          have := List.mem_of_getElem? h
          obtain ⟨x, _, hx⟩ := List.mem_map.1 this
          exact ⟨x, hx.symm⟩
        subst hx
        have hc := List.mem_of_getElem? h'
        rw [List.mem_singleton] at hc
        subst hc
        cases hu2; exact .v _
    refine ⟨hs.below, fun b' o v h => ?_, fun b' o v h => ?_, fun b' o hb hn => ?_, fun e' he => ?_, by simp, by simp, by simp, hs.size, hone _ _ rfl hu _ _, hs.defers, hs.dr⟩
    · split at h
      · cases h
      · exact hs.com _ _ _ h
    · split at h
      · cases h
      · exact hs.one _ _ _ h
    · have : ¬ b' = b := by omega
      simp only [this, if_false]; exact hs.old _ _ hb hn
    · obtain rfl := List.mem_singleton.1 he
      refine ⟨⟨arr, k3, k4, hcap, hrow.1, arr.toList.take (l.length * sz), ⟨?_, ?_⟩, ?_, rfl⟩, fun o => by simp, fun _ => .inl k1⟩
      · have k4' : arr.toList.length = cap * sz := by simpa using k4
        rw [List.length_take, flat_len hrow.1, k4']; omega
      · intro j c u hc hu'
        obtain ⟨cs, hcs, hcm⟩ := List.mem_flatten.1 (List.mem_of_getElem? hc)
        have hcase := hflat cs hcs c hcm
        have hjl := (List.getElem?_eq_some_iff.1 hc).1
        obtain ⟨ws, w1, w2, w3⟩ := hrow.vals
        have hjw : j < ws.length := by rw [w1.1]; exact hjl
        have h3 := w3 j _ (List.getElem?_eq_getElem hjw)
        have h4 := (hs.com _ _ _ h3).cell
        rw [cell_of_row w b (0 + j) arr e (0, 0) k3] at h4
        rw [flat_len hrow.1] at hjl
        rw [List.getElem?_take, if_pos hjl] at hu'
        have h5 := w1.2 j c ws[j] hc (List.getElem?_eq_getElem hjw)
        rw [Nat.zero_add] at h4
        have : some u = some (ws[j]) := by rw [← hu', ← h4]; simp
        cases this
        rcases hcase with ⟨v, rfl, _⟩ | ⟨Cs, d, rfl⟩
        · cases h5; exact .v _
        · cases h5 with | hi h5 hs5 hv5 => exact .hi (hkeep d _ h5) hs5 hv5
      · intro v hv
        obtain ⟨j, hj⟩ := List.getElem?_of_mem hv
        obtain ⟨ws, w1, w2, w3⟩ := hrow.vals
        have hjl := (List.getElem?_eq_some_iff.1 hj).1
        rw [List.length_take] at hjl
        have hjw : j < ws.length := by rw [w2]; omega
        have h3 := w3 j _ (List.getElem?_eq_getElem hjw)
        have h4 := (hs.com _ _ _ h3).cell
        rw [cell_of_row w b (0 + j) arr e (0, 0) k3, Nat.zero_add] at h4
        rw [List.getElem?_take, if_pos (by omega)] at hj
        have : some v = some (ws[j]) := by rw [← hj, ← h4]; simp
        cases this
        exact hs.one _ _ _ h3
def strip : AV → AV
  | .hi _ x => x
  | x => x
def OwnCell (O : List OE) (c : AV) (u : Value) : Prop :=
  (∃ x, c = .v x ∧ u = x) ∨ ∃ (d : List UInt8) (A : Option Addr) (cap : Nat), c = .sl 1 (u8s d) ∧ u = .slice A d.length cap ∧ d.length ≤ cap ∧
    (d ≠ [] → ∃ b o ys, A = some ⟨b, o, none⟩ ∧ (⟨b, true, .box (List.map AV.v ys)⟩ : OE) ∈ O ∧ ∀ (k : Nat) (x : UInt8), d[k]? = some x → ys[o + k]? = some (.int .u8 x.toNat))
theorem OwnCell.mono {O O' : List OE} (hO : ∀ e ∈ O, e ∈ O') {c : AV} {u : Value} (h : OwnCell O c u) : OwnCell O' c u := by
  rcases h with h | ⟨d, A, cap, h1, h2, h3, h4⟩
  · exact .inl h
  · exact .inr ⟨d, A, cap, h1, h2, h3, fun hd => let ⟨b, o, ys, g1, g2, g3⟩ := h4 hd; ⟨b, o, ys, g1, hO _ g2, g3⟩⟩
theorem own_cells {Cs C' : CS} {w' : World} {n g : Nat} (hcom : Com C' w') (hno : ∀ o, C' g o = none) (hC : ∀ b o, b < n → C' b o = Cs b o) (hth : thr ≤ n) (hT : THC = true) :
    ∀ (cu : List (AV × Value)), (∀ p ∈ cu, Rel C' p.1 p.2 ∧ ((∃ x, p.1 = .v x) ∨ ∃ d, p.1 = .hi Cs (.sl 1 (u8s d)))) →
    ∃ D : List OE, (∀ e ∈ D, n ≤ e.b ∧ e.b ≠ g ∧ e.rw = true ∧ RawAt e w') ∧ D.Pairwise (fun e e' => e.b ≠ e'.b) ∧ ∀ p ∈ cu, OwnCell D (strip p.1) p.2
  | [], _ => ⟨[], by simp, by simp, by simp⟩
  | (c, u) :: r, h => by
    obtain ⟨D, h1, h2, h3⟩ := own_cells hcom hno hC hth hT r (fun p hp => h p (List.mem_cons_of_mem _ hp))
    obtain ⟨hr, hc⟩ := h (c, u) List.mem_cons_self
    have hold : OwnCell D (strip c) u → ∃ D : List OE, (∀ e ∈ D, n ≤ e.b ∧ e.b ≠ g ∧ e.rw = true ∧ RawAt e w') ∧ D.Pairwise (fun e e' => e.b ≠ e'.b) ∧ ∀ p ∈ (c, u) :: r, OwnCell D (strip p.1) p.2 := fun ho =>
      ⟨D, h1, h2, fun p hp => by rcases List.mem_cons.1 hp with rfl | hp; exact ho; exact h3 p hp⟩
    rcases hc with ⟨x, hx⟩ | ⟨d, hx⟩
    · simp only at hx hr; subst hx
      have hux : u = x := by cases hr; rfl
      exact hold (.inl ⟨x, rfl, hux⟩)
    · simp only at hx hr; subst hx
      cases hr with
      | hi hr hs hv =>
        obtain ⟨A, cap, b, o, rfl, g1, g2, g3⟩ := rel_sl_inv hr
        have hlen : (u8s d).length = d.length := by simp [u8s]
        by_cases hd : d = []
        · subst hd; exact hold (.inr ⟨[], A, cap, rfl, rfl, Nat.zero_le _, fun h => absurd rfl h⟩)
        · have hA := g2 (by intro h; apply hd; simpa [u8s] using h)
          subst hA
          have hcell : ∀ (k : Nat) (x : UInt8), d[k]? = some x → C' b (o + k) = some (.int .u8 x.toNat) := by
            intro k x hk
            obtain ⟨u1, hu1, hu2⟩ := g3.2 k [.v (.int .u8 x.toNat)] 0 (.v (.int .u8 x.toNat)) (by simp [u8s, hk]) rfl
            cases hu2
            simpa using hu1
          obtain ⟨x0, d', rfl⟩ := List.exists_cons_of_ne_nil hd
          have hc0 := hcell 0 x0 rfl
          have hbn : n ≤ b := Nat.le_of_not_lt fun hlt => by
            have h9 := hv b o none _ cap rfl (by rw [hlen]; simp) (o + 0)
            rw [← hC b (o + 0) hlt, hc0] at h9; cases h9
          have hbg : b ≠ g := fun e => by subst e; rw [hno] at hc0; cases hc0
          obtain ⟨arr, t0, harr⟩ := (hcom.1 b _ _ hc0).pl (by rw [hT]; simp) (by simp only [need, hT, isU8, Bool.true_and]; rw [Nat.ble_eq_true_of_le (Nat.le_trans hth hbn)]; simp)
          have hys : ∀ (k : Nat) (x : UInt8), (x0 :: d')[k]? = some x → arr.toList[o + k]? = some (.int .u8 x.toNat) := by
            intro k x hk
            have h9 := (hcom.1 _ _ _ (hcell k x hk)).cell
            rw [cell_of_row w' b _ arr t0 (0, 0) harr] at h9
            simpa using h9
          have hlen' : (x0 :: d').length ≤ cap := by rw [← hlen]; exact g1
          by_cases hin : ∃ e ∈ D, e.b = b
          · obtain ⟨e, he, hb⟩ := hin
            obtain ⟨_, _, hrw, xs, t1, hx1, hx2⟩ := h1 e he
            rw [hb, harr] at hx2; cases hx2
            refine hold (.inr ⟨_, _, cap, rfl, by rw [hlen], hlen', fun _ => ⟨b, o, xs, rfl, ?_, by simpa using hys⟩⟩)
            obtain ⟨eb, erw, eo⟩ := e
            simp only at hb hrw hx1; subst hb hrw hx1; exact he
          · refine ⟨⟨b, true, .box (arr.toList.map AV.v)⟩ :: D, ?_, ?_, ?_⟩
            · intro e he
              rcases List.mem_cons.1 he with rfl | he
              · exact ⟨hbn, hbg, rfl, arr.toList, t0, rfl, by simpa using harr⟩
              · exact h1 e he
            · exact List.pairwise_cons.2 ⟨fun e he hb => hin ⟨e, he, hb.symm⟩, h2⟩
            · intro p hp
              rcases List.mem_cons.1 hp with rfl | hp
              · exact .inr ⟨_, _, cap, rfl, by rw [hlen], hlen', fun _ => ⟨b, o, arr.toList, rfl, List.mem_cons_self, hys⟩⟩
              · exact (h3 p hp).mono (fun e he => List.mem_cons_of_mem _ he)
def Dat (O : List OE) (A : Option Addr) (n sz j : Nat) : Prop :=
  n = 0 ∨ ∃ (g : Nat) (xs : List Value) (D : List OE), A = some ⟨g, 0, none⟩ ∧ O = ⟨g, true, .box (List.map AV.v xs)⟩ :: D ∧
    ∀ i, i < n → ∃ (B : Option Addr) (m cap : Nat), xs[i * sz + j]? = some (.slice B m cap) ∧ m ≤ 1000000 ∧ (0 < m → ∃ (b o q : Nat) (ys : List AV), B = some ⟨b, o, none⟩ ∧ D[q]? = some ⟨b, true, .box ys⟩ ∧ o + m ≤ ys.length)
def OwnR (sz j : Nat) (l : List (List AV)) (r : AV) (O : List OE) : Prop :=
  ∃ A cap, r = .v (.slice A l.length cap) ∧ Rel (CO O) (.sl sz l) (.slice A l.length cap) ∧ Dat O A l.length sz j
theorem conv_grow {Cs C' : CS} {w' : World} {n sz j : Nat} {l lH : List (List AV)} {r : AV} {v : Value} {nobjs : List OE} (hl : l = lH.map (·.map strip)) (hsh : ∀ cs ∈ lH, ∀ c ∈ cs, (∃ x, c = .v x) ∨ ∃ d, c = .hi Cs (.sl 1 (u8s d)))
    (hj : ∀ cs ∈ lH, ∃ d, cs[j]? = some (.hi Cs (.sl 1 (u8s d))) ∧ d.length ≤ 1000000) (hR : GrowB sz lH r nobjs) (hrel : Rel C' r v) (hcom : Com C' w') (hob : Objs C' nobjs w') (hnb : ∀ e ∈ nobjs, n ≤ e.b) (hC : ∀ b o, b < n → C' b o = Cs b o) (hth : thr ≤ n) (hT : THC = true) :
    ConvX Cs C' w' n v (OwnR sz j l) := by
  subst hl
  rcases hR with ⟨rfl, rfl, rfl⟩ | ⟨g, cap, e, rfl, rfl⟩
  · cases hrel
    exact ⟨.v (.slice none 0 0), [], fun C => .v _, by simp, by simp, none, 0, rfl, rel_sl_mk 0 0 rfl (Nat.le_refl _) (fun e => absurd rfl e) ⟨fun _ h => by simp at h, fun i cs j c h => by simp at h⟩, .inl rfl⟩
  · cases hrel
    obtain ⟨hob1, hno⟩ := hob.1 _ (List.mem_singleton.2 rfl)
    have hgn := hnb _ (List.mem_singleton.2 rfl)
    simp only at hob1 hno hgn
    obtain ⟨arr, a1, a2, a3, a4, vs, a5, a6, a7⟩ := hob1
    obtain ⟨D, d1, d2, d3⟩ := own_cells (g := g) hcom hno hC hth hT (lH.flatten.zip vs) (by
      rintro ⟨c, u⟩ hp
      obtain ⟨k, hk⟩ := List.getElem?_of_mem hp
      rw [List.getElem?_zip_eq_some] at hk
      obtain ⟨cs, hcs, hc⟩ := List.mem_flatten.1 (List.mem_of_getElem? hk.1)
      exact ⟨a5.2 k c u hk.1 hk.2, hsh cs hcs c hc⟩)
    have hcell : ∀ (k : Nat) (c : AV), lH.flatten[k]? = some c → ∃ u, arr.toList[k]? = some u ∧ u.oneCell' = true ∧ OwnCell D (strip c) u := by
      intro k c hk
      obtain ⟨u, hu, _⟩ := a5.get hk
      refine ⟨u, ?_, a6 u (List.mem_of_getElem? hu), d3 (c, u) (List.mem_of_getElem? (List.getElem?_zip_eq_some.2 ⟨hk, hu⟩))⟩
      rw [← a7, List.getElem?_take] at hu
      split at hu
      · exact hu
      · cases hu
    have hap : (⟨g, true, .box (arr.toList.map AV.v)⟩ :: D : List OE).Pairwise (fun e e' => e.b ≠ e'.b) := List.pairwise_cons.2 ⟨fun e he => fun h => (d1 e he).2.1 h.symm, d2⟩
    have hz' : ∀ cs ∈ lH.map (·.map strip), cs.length = sz := fun cs hcs => by obtain ⟨c0, hc0, rfl⟩ := List.mem_map.1 hcs; rw [List.length_map]; exact a4 c0 hc0
    refine ⟨_, ⟨g, true, .box (arr.toList.map AV.v)⟩ :: D, fun C => .v _, ?_, hap, some ⟨g, 0, none⟩, cap, by rw [List.length_map], ?_, ?_⟩
    · intro e' he
      rcases List.mem_cons.1 he with rfl | he
      · exact ⟨hgn, arr.toList, e, rfl, by simpa using a1⟩
      · exact ⟨(d1 e' he).1, (d1 e' he).2.2.2⟩
    · refine rel_sl_mk g 0 rfl (by rw [List.length_map]; exact a3) (fun _ => rfl) ⟨hz', fun i cs k c h h' => ?_⟩
      rw [List.getElem?_map] at h
      cases hi : lH[i]? with
      | none => rw [hi] at h; cases h
      | some c0 =>
        rw [hi] at h; cases h
        rw [List.getElem?_map] at h'
        cases hk : c0[k]? with
        | none => rw [hk] at h'; cases h'
        | some cc =>
          rw [hk] at h'; cases h'
          obtain ⟨u, hu1, hu2, hu3⟩ := hcell _ _ (flat_get a4 hi hk)
          refine ⟨u, ?_, ?_⟩
          · refine co_get hap List.mem_cons_self (e := ⟨g, true, .box (arr.toList.map AV.v)⟩) ?_
            simp only [cellsOf, Nat.zero_add, List.getElem?_map, hu1, Option.map_some, hu2, if_true]
          · rcases hu3 with ⟨x, hx, rfl⟩ | ⟨d, A, cp, hx, rfl, hcp, hb⟩
            · rw [hx]; exact .v _
            · rw [hx]
              have hlen : (u8s d).length = d.length := by simp [u8s]
              by_cases hd : d = []
              · subst hd; exact rel_sl_mk 0 0 rfl (Nat.zero_le _) (fun e => absurd rfl e) ⟨fun _ h => by simp [u8s] at h, fun i cs j c h => by simp [u8s] at h⟩
              · obtain ⟨b, o, ys, rfl, hm, hk'⟩ := hb hd
                refine rel_sl_mk b o hlen.symm hcp (fun _ => rfl) ⟨fun cs hcs => by obtain ⟨x, _, rfl⟩ := List.mem_map.1 hcs; rfl, fun i' cs' k' c' g1 g2 => ?_⟩
                rw [u8s, List.getElem?_map] at g1
                cases hdi : d[i']? with
                | none => rw [hdi] at g1; cases g1
                | some x =>
                  rw [hdi] at g1; cases g1
                  have hk0 : k' = 0 := by have := (List.getElem?_eq_some_iff.1 g2).1; simp at this; exact this
                  subst hk0; cases g2
                  refine ⟨.int .u8 x.toNat, ?_, .v _⟩
                  refine co_get hap (List.mem_cons_of_mem _ hm) (e := ⟨b, true, .box (List.map AV.v ys)⟩) ?_
                  have := hk' i' x hdi
                  simp only [cellsOf, Nat.mul_one, Nat.add_zero, List.getElem?_map, this, Option.map_some, Value.oneCell', if_true]
    · by_cases h0 : lH.length = 0
      · exact .inl (by rw [List.length_map]; exact h0)
      · refine .inr ⟨g, arr.toList, D, rfl, rfl, fun i hi => ?_⟩
        rw [List.length_map] at hi
        obtain ⟨cs, hcs⟩ := get_lt hi
        obtain ⟨d, hd, hdb⟩ := hj cs (List.mem_of_getElem? hcs)
        obtain ⟨u, hu1, _, hu3⟩ := hcell _ _ (flat_get a4 hcs hd)
        rcases hu3 with ⟨x, hx, _⟩ | ⟨d', A, cp, hx, rfl, hcp, hb⟩
        · cases hx
        · have hdd : d'.length = d.length := by
            have e1 : u8s d = u8s d' := by injection hx
            have e2 := congrArg List.length e1
            simpa [u8s] using e2.symm
          refine ⟨A, _, cp, hu1, by omega, fun hm => ?_⟩
          obtain ⟨b, o, ys, rfl, hmem, hk'⟩ := hb (by intro h; subst h; simp at hm)
          obtain ⟨q, hq⟩ := List.getElem?_of_mem hmem
          refine ⟨b, o, q, _, rfl, hq, ?_⟩
          have hlt : d'.length - 1 < d'.length := by omega
          have h9 := (List.getElem?_eq_some_iff.1 (hk' _ _ (List.getElem?_eq_getElem hlt))).1
          rw [List.length_map]; omega
end Go.Proofs.Ytnbnegkdbjdekaa.A
namespace Go.Proofs.Ytnbnegkdbjdekaa.A
open Go Go.RowKit Go.Maps Go.Sort
set_option linter.unusedSectionVars false
variable [Thr]
set_option linter.unusedVariables false
set_option linter.unusedSimpArgs false
set_option linter.unusedSectionVars false
variable {P : Program} {w0 : Base} {C0 C : CS} {T : TS} {S S' : AState} {a : Act} {w : World} {ops : Array Oper} {rest : List Oper} {o : Oper} {Q : Exit → AState → Prop}
variable {t : Nat} {ty ty' : TypeId} {pos : String} {aft : Array Edge}
def hiB (Cs : CS) (l : List UInt8) : AV := .hi Cs (.sl 1 (u8s l))
def File.csH (Cs : CS) (f : File) : List AV := [.v (.string f.name), hiB Cs f.data]
def FC.csH (Cs : CS) (c : FC) : List AV := [.v (.int .i64 c.kind), .v (.string c.name), .v (.string c.to), hiB Cs c.data]
theorem strip_file (Cs : CS) (l : List File) : l.map File.cs = (l.map (File.csH Cs)).map (·.map strip) := by
  rw [List.map_map]; rfl
theorem strip_fc (Cs : CS) (l : List FC) : l.map FC.cs = (l.map (FC.csH Cs)).map (·.map strip) := by
  rw [List.map_map]; rfl
theorem shape_file (Cs : CS) (l : List File) : ∀ cs ∈ l.map (File.csH Cs), ∀ c ∈ cs, (∃ x, c = AV.v x) ∨ ∃ d, c = AV.hi Cs (.sl 1 (u8s d)) := fun cs hcs c hc => by
  obtain ⟨x, _, rfl⟩ := List.mem_map.1 hcs
  simp [File.csH] at hc
  rcases hc with rfl | rfl
  · exact .inl ⟨_, rfl⟩
  · exact .inr ⟨_, rfl⟩
theorem shape_fc (Cs : CS) (l : List FC) : ∀ cs ∈ l.map (FC.csH Cs), ∀ c ∈ cs, (∃ x, c = AV.v x) ∨ ∃ d, c = AV.hi Cs (.sl 1 (u8s d)) := fun cs hcs c hc => by
  obtain ⟨x, _, rfl⟩ := List.mem_map.1 hcs
  simp [FC.csH] at hc
  rcases hc with rfl | rfl | rfl | rfl
  · exact .inl ⟨_, rfl⟩
  · exact .inl ⟨_, rfl⟩
  · exact .inl ⟨_, rfl⟩
  · exact .inr ⟨_, rfl⟩
theorem col_file (Cs : CS) (l : List File) (hb : ∀ f ∈ l, f.data.length ≤ 1000000) : ∀ cs ∈ l.map (File.csH Cs), ∃ d, cs[1]? = some (AV.hi Cs (.sl 1 (u8s d))) ∧ d.length ≤ 1000000 := fun cs hcs => by
  obtain ⟨x, hx, rfl⟩ := List.mem_map.1 hcs; exact ⟨x.data, rfl, hb x hx⟩
theorem col_fc (Cs : CS) (l : List FC) (hb : ∀ f ∈ l, f.data.length ≤ 1000000) : ∀ cs ∈ l.map (FC.csH Cs), ∃ d, cs[3]? = some (AV.hi Cs (.sl 1 (u8s d))) ∧ d.length ≤ 1000000 := fun cs hcs => by
  obtain ⟨x, hx, rfl⟩ := List.mem_map.1 hcs; exact ⟨x.data, rfl, hb x hx⟩
theorem flat_file (Cs : CS) (l : List File) : ∀ cs ∈ l.map (File.csH Cs), ∀ c ∈ cs, (∃ v, c = AV.v v ∧ noU8 v = true) ∨ ∃ Cs d, c = AV.hi Cs (.sl 1 (u8s d)) := fun cs hcs c hc => by
  obtain ⟨x, _, rfl⟩ := List.mem_map.1 hcs
  simp [File.csH] at hc
  rcases hc with rfl | rfl
  · exact .inl ⟨_, rfl, rfl⟩
  · exact .inr ⟨_, _, rfl⟩
theorem flat_fc (Cs : CS) (l : List FC) : ∀ cs ∈ l.map (FC.csH Cs), ∀ c ∈ cs, (∃ v, c = AV.v v ∧ noU8 v = true) ∨ ∃ Cs d, c = AV.hi Cs (.sl 1 (u8s d)) := fun cs hcs c hc => by
  obtain ⟨x, _, rfl⟩ := List.mem_map.1 hcs
  simp [FC.csH] at hc
  rcases hc with rfl | rfl | rfl | rfl
  · exact .inl ⟨_, rfl, rfl⟩
  · exact .inl ⟨_, rfl, rfl⟩
  · exact .inl ⟨_, rfl, rfl⟩
  · exact .inr ⟨_, _, rfl⟩
theorem u8s_flat (l : List UInt8) : ∀ cs ∈ u8s l, ∀ c ∈ cs, ∃ v, c = AV.v v := fun cs hcs c hc => by
  obtain ⟨x, _, rfl⟩ := List.mem_map.1 hcs
  rw [List.mem_singleton] at hc; exact ⟨_, hc⟩
theorem objLe_hi {Cs : CS} {m : List (ByteArray × List UInt8)} : ObjLe (.map (encM Value.string (hiB Cs) m)) (.map (encM Value.string bts m)) := by
  refine objLe_map (by simp [encM, Function.comp_def]) (fun C vs r => ?_)
  have key : ∀ (m : List (ByteArray × List UInt8)), LeCells ((encM Value.string (hiB Cs) m).map (·.2)) ((encM Value.string bts m).map (·.2)) := by
    intro m
    induction m with
    | nil => exact .nil
    | cons x r ih => exact .cons (.hi Cs _) ih
  exact (key m).rels r
theorem objLe_hi1 {Cs : CS} {m : List (ByteArray × List UInt8)} {b : Nat} {f : Bool} : ∀ (i : Nat) (e e' : OE), [(⟨b, f, .map (encM Value.string (hiB Cs) m)⟩ : OE)][i]? = some e → [(⟨b, f, .map (encM Value.string bts m)⟩ : OE)][i]? = some e' → ObjLe e.o e'.o := fun i e e' h h' => by
  cases i with
  | zero => simp at h h'; subst h; subst h'; exact objLe_hi
  | succ i => simp at h
theorem r_indexVA {st e : TypeId} {sz g off n cap : Nat} {A : Option Addr} {x y : Operand} {k : IntKind} {i : Int} (hA : A = some ⟨g, off, none⟩) (hx : S.ev x = some (.a (.v (.slice A n cap)))) (hy : S.ev y = some (.a (.v (.int k i)))) (hst : sliceT P st = some e) (hsz : szT P e = some sz) (h0 : 0 ≤ i) (h1 : i < n) (ht : Nat.blt t S.nt = true)
    (hr : AWL P w0 C0 ops rest Q (S.put t (.a (.v (.pointer (some ⟨g, off + i.toNat * sz, none⟩)))))) : AWL P w0 C0 ops (⟨some t, .indexAddr st x y, ty, pos, aft, none⟩ :: rest) Q S := by
  subst hA; exact r_indexV hx hy hst hsz h0 h1 ht hr
def DatD (xs : List Value) (D : List OE) (n sz j : Nat) : Prop :=
  ∀ i, i < n → ∃ (B : Option Addr) (m cap : Nat), xs[i * sz + j]? = some (.slice B m cap) ∧ m ≤ 1000000 ∧ (0 < m → ∃ (b o q : Nat) (ys : List AV), B = some ⟨b, o, none⟩ ∧ D[q]? = some ⟨b, true, .box ys⟩ ∧ o + m ≤ ys.length)
theorem DatD.set {xs : List Value} {D : List OE} {n sz j : Nat} (h : DatD xs D n sz j) {q b o : Nat} {ys : List AV} {v : AV} (hq : D[q]? = some ⟨b, true, .box ys⟩) (ho : o < ys.length) : DatD xs (D.set q ⟨b, true, .box (ys.take o ++ [v] ++ ys.drop (o + 1))⟩) n sz j := by
  intro i hi
  obtain ⟨B, m, cap, h1, hmb, h2⟩ := h i hi
  refine ⟨B, m, cap, h1, hmb, fun hm => ?_⟩
  obtain ⟨b', o', q', ys', g1, g2, g3⟩ := h2 hm
  have hql := (List.getElem?_eq_some_iff.1 hq).1
  by_cases hqq : q = q'
  · subst hqq
    rw [hq] at g2; cases g2
    refine ⟨b, o', q, _, g1, by rw [List.getElem?_set_self hql], ?_⟩
    simp; omega
  · exact ⟨b', o', q', ys', g1, by rw [List.getElem?_set_ne hqq]; exact g2, g3⟩
theorem set_head {e x : OE} {D E : List OE} {q : Nat} (h : q < D.length) : ((e :: D) ++ E).set (q + 1) x = (e :: D.set q x) ++ E := by
  show e :: (D ++ E).set q x = e :: (D.set q x ++ E)
  rw [List.set_append_left _ _ h]
theorem set_headS {e x y : OE} {D E : List OE} {q : Nat} (h : D[q]? = some y) : List.Sublist ((e :: D.set q x) ++ E) (((e :: D) ++ E).set (q + 1) x) := by
  rw [set_head (List.getElem?_eq_some_iff.1 h).1]; exact List.Sublist.refl _
theorem get_head {e x : OE} {D E : List OE} {q : Nat} (h : D[q]? = some x) : ((e :: D) ++ E)[q + 1]? = some x := by
  show (D ++ E)[q]? = some x
  rw [List.getElem?_append_left (List.getElem?_eq_some_iff.1 h).1]; exact h
theorem cell_av {xs : List Value} {k : Nat} {v : Value} (h : xs[k]? = some v) : (xs.map AV.v)[k]? = some (.v v) := by rw [List.getElem?_map, h]; rfl
theorem convX_tup {Cs C' : CS} {w' : World} {n : Nat} {v e : Value} {r0 : AV} {R2 : AV → List OE → Prop} (hrel : Rel C' (.tup [r0, .v e]) v) (h : ∀ v0, Rel C' r0 v0 → ConvX Cs C' w' n v0 R2) : ConvX Cs C' w' n v (fun r n => ∃ r0, r = .tup [r0, .v e] ∧ R2 r0 n) := by
  cases hrel with
  | tup u hn hC hR =>
    rename_i arr
    obtain ⟨v0, vs, h1, h2, h3⟩ := (rel_tup.1 (.tup u hn hC hR)).cons_inv
    obtain ⟨v1, vs', rfl, h4, h5⟩ := h3.cons_inv
    have hv1 : v1 = e := by cases h4; rfl
    subst hv1
    obtain rfl := h5.nil_inv
    obtain ⟨r2, n2, g1, g2, g3, g4⟩ := h v0 h2
    exact ⟨.tup [r2, .v v1], n2, fun C => rel_tup.2 (by rw [h1]; exact Rels.cons (g1 C) (Rels.cons (.v _) Rels.nil)), g2, g3, r2, rfl, g4⟩
end Go.Proofs.Ytnbnegkdbjdekaa.A
namespace Go.Proofs.Ytnbnegkdbjdekaa.A
open Go Go.RowKit
set_option linter.unusedVariables false
set_option linter.unusedSimpArgs false
set_option maxRecDepth 100000
set_option linter.unusedSectionVars false
variable [Thr]
theorem TF.zavH : ∀ Cs : CS, ZeroAV Try.prog 34 (hiB Cs []) := fun Cs => ⟨.v (.slice none 0 0), by kernel_rfl, .one (.hiNil Cs 1)⟩
theorem TF.zeroHC : ∀ Cs : CS, ZeroT Try.prog 50 [.v (.int .i64 0), .v (.string ⟨#[]⟩), .v (.string ⟨#[]⟩), hiB Cs []] := fun Cs => ⟨[(.int .i64 0), (.string ⟨#[]⟩), (.string ⟨#[]⟩), (.slice none 0 0)], by kernel_rfl, (.cons (.refl _) (.cons (.refl _) (.cons (.refl _) (.cons (.hiNil Cs 1) .nil))))⟩
theorem cloneH_ok (l : List UInt8) (hl : l.length ≤ 1000000) : AC Try.prog 30 [bts l] [] (GrowB 1 (u8s l)) := by
 refine ac_of_awp (rs := [2]) (nt := 8) Try.func30 rfl rfl rfl rfl (fun w0 C0 hq => ?_)
 refine awp_seq ?_
 refine awp_region ?_
 refine r_assign rfl rfl ?_
 refine awl_nil ?_
 refine x_then ?_
 refine awp_seq ?_
 refine awp_seq ?_
 refine awp_region ?_
 refine r_move rfl rfl ?_
 refine r_slnil rfl rfl TF.sl34 rfl (fun b4 hb4 => ?_)
 refine awl_nil ?_
 refine x_then ?_
 refine awp_cond rfl (fun hc0 => ?_) (fun hc0 => ?_)
 ·
  obtain rfl : l = [] := by simpa [u8s] using hb4 hc0
  refine awp_seq ?_
  refine awp_region ?_
  refine r_assign rfl rfl ?_
  refine awl_nil ?_
  refine x_then ?_
  refine awp_ret ?_
  refine x_thenR ?_
  exact ⟨(.inl rfl), _, [], (.one (by first | exact .mk rfl rfl | exact .nil rfl)), (.inl ⟨rfl, rfl, rfl⟩), (List.nil_sublist _), (by simp)⟩
 ·
  refine awp_skip ?_
  refine x_then ?_
  refine awp_seq ?_
  refine awp_region ?_
  refine r_lit 5 (parts := []) rfl TF.sl34 TF.sz5 TF.zraw5 rfl rfl rfl rfl rfl rfl rfl ?_
  refine r_move rfl rfl ?_
  refine r_append 5 rfl (by first | exact .own _ | exact .nil) rfl (by first | exact .sl _ | exact .own _ _ | exact .nil) TF.sl34 TF.sz5 (by decide) TF.by5 TF.zlen5 (by simp [chunks, u8s]; omega) (by simp [chunks, u8s]; omega) rfl ?_
  refine awl_ownbuf 7 (l := u8s l) rfl (u8s_flat l) rfl (fun h0 => ?_) (fun gb gc ge => ?_)
  ·
   refine r_assign rfl rfl ?_
   refine awl_nil ?_
   refine x_then ?_
   refine awp_ret ?_
   exact ⟨(.inl rfl), _, [], (.one (by first | exact .mk rfl rfl | exact .nil rfl)), (.inl ⟨h0, rfl, rfl⟩), (List.nil_sublist _), (by simp)⟩
  ·
   refine r_assign rfl rfl ?_
   refine awl_nil ?_
   refine x_then ?_
   refine awp_ret ?_
   exact ⟨(.inl rfl), _, [⟨gb, true, .buf 1 (u8s l) gc ge⟩], (.one (by first | exact .mk rfl rfl | exact .nil rfl)), (.inr ⟨gb, gc, ge, rfl, rfl⟩), (by first | exact List.Sublist.refl _ | exact .cons_cons _ (.cons _ (.refl _)) | exact List.nil_sublist _ | exact .cons _ (.refl _) | exact .cons _ (.cons _ (.refl _)) | exact .cons _ (.cons _ (.cons _ (.refl _))) | exact .cons _ (.cons _ (.cons _ (.cons _ (.refl _)))) | exact .cons_cons _ (List.nil_sublist _)), (by simp)⟩
theorem namedH_ok (Cs : CS) (l : List File) (hl : l.length ≤ 1000000) (hda : ∀ f ∈ l, f.data.length ≤ 1000000) : AWC Cs Try.prog 23 [files l] [] [] (fun r n => ∃ b, r = .v (.map (some b)) ∧ n = [⟨b, true, .map (encM Value.string (hiB Cs) (firstM l))⟩]) := by
 refine awc_of_awpG Cs (so := []) (nt := 32) (fun S r => Result1 S [2] r) Try.func23 rfl rfl rfl rfl (result1_run rfl) (fun w0 C0 hq hcs => ?_)
 refine awp_seq ?_
 refine awp_region ?_
 refine r_assign rfl rfl ?_
 refine awl_nil ?_
 refine x_then ?_
 refine awp_seq ?_
 refine awp_region ?_
 refine r_makeMap (ek := Value.string) (ev := (hiB Cs)) [] rfl rfl (fun b8 => ?_)
 refine r_assign rfl rfl ?_
 refine awl_nil ?_
 refine x_then ?_
 refine awp_seq ?_
 refine awp_seq ?_
 refine awp_region ?_
 refine r_move rfl rfl ?_
 first | (refine r_lenS rfl rfl TF.sl25 rfl ?_) | (refine r_lenNil rfl TF.sl25 rfl ?_) | (refine r_lenV rfl TF.sl25 rfl ?_)
 refine r_move rfl rfl ?_
 refine awl_nil ?_
 refine x_then ?_
 refine awp_block ?_
 refine awp_loop (fun nn0 S => ∃ k : Nat, S = ⟨32, [(3, .a (.v (.map (some b8)))), (9, .a (files l)), (10, .a (.v (.int .i64 ((l.map File.cs).length)))), (11, .a (.v (.int .i64 ((k : Int)))))], [⟨b8, true, .map (encM Value.string (hiB Cs) (firstM (l.take k)))⟩]⟩ ∧ nn0 = l.length - k ∧ (k ≤ l.length)) (l.length - (0)) ⟨32, [(3, .a (.v (.map (some b8)))), (9, .a (files l)), (10, .a (.v (.int .i64 ((l.map File.cs).length)))), (11, .a (.v (.int .i64 (((0) : Int)))))], [⟨b8, true, .map (encM Value.string (hiB Cs) (firstM (l.take (0))))⟩]⟩ ⟨rfl, (Slots.cons rfl (by first | exact .refl _ | exact .nilOwn _ _ | exact .nilSl _ | exact .ownSl _ _ _  | exact SV.le.of_eq (by simp)) (Slots.cons rfl (by first | exact .refl _ | exact .nilOwn _ _ | exact .nilSl _ | exact .ownSl _ _ _  | exact SV.le.of_eq (by simp)) (Slots.cons rfl (by first | exact .refl _ | exact .nilOwn _ _ | exact .nilSl _ | exact .ownSl _ _ _  | exact SV.le.of_eq (by simp)) (Slots.cons rfl (by first | exact .refl _ | exact .nilOwn _ _ | exact .nilSl _ | exact .ownSl _ _ _  | exact SV.le.of_eq (by simp)) Slots.nil)))), (by first | exact List.Sublist.refl _ | exact .cons_cons _ (.cons _ (.refl _)) | exact List.nil_sublist _ | exact .cons _ (.refl _) | exact .cons _ (.cons _ (.refl _)) | exact .cons _ (.cons _ (.cons _ (.refl _))) | exact .cons _ (.cons _ (.cons _ (.cons _ (.refl _)))) | exact .cons_cons _ (List.nil_sublist _))⟩ ⟨0, rfl, rfl, Nat.zero_le _⟩ ?_
 rintro nn0 _ ⟨k, rfl, rfl, hk⟩
 refine awp_seq ?_
 refine awp_region ?_
 refine r_cmp rfl rfl rfl rfl ?_
 refine awl_nil ?_
 refine x_then ?_
 refine awp_seq ?_
 refine awp_cond rfl (fun hc0 => ?_) (fun hc0 => ?_)
 ·
  have hltx : k < l.length := by have := of_decide_eq_true hc0; simpa using this
  obtain ⟨x, hx⟩ := get_lt hltx
  refine awp_skip ?_
  refine x_then ?_
  refine awp_seq ?_
  refine awp_block ?_
  refine awp_seq ?_
  refine awp_region ?_
  refine r_index rfl rfl rfl TF.sl25 TF.sz48 (by omega) (get_map hx) rfl ?_
  first | (refine r_loadA rfl TF.agg48 TF.sz48 rfl rfl ?_) | (refine r_loadAb 0 rfl rfl TF.agg48 TF.sz48 rfl rfl ?_)
  refine r_alloc TF.zero48 rfl (fun b5 => ?_)
  first | (refine r_store 0 rfl rfl rfl TF.sz48 rfl rfl rfl ?_) | (refine r_store 1 rfl rfl rfl TF.sz48 rfl rfl rfl ?_)
  refine awl_nil ?_
  refine x_then ?_
  refine awp_seq ?_
  refine awp_region ?_
  refine r_move rfl rfl ?_
  first | (refine r_fieldb rfl TF.f48_0 TF.sz9 rfl ?_) | (refine r_fieldcp rfl TF.f48_0 TF.sz9 rfl ?_)
  refine r_load1b 0 rfl rfl rfl TF.agg9 rfl ?_
  first | (refine r_lookupOk 0 (keyEnc_string TF.un9) (ev := (hiB Cs)) [] rfl rfl rfl TF.map55 (TF.zavH Cs) rfl ?_) | (refine r_lookupOk 1 (keyEnc_string TF.un9) (ev := (hiB Cs)) [] rfl rfl rfl TF.map55 (TF.zavH Cs) rfl ?_)
  refine r_move rfl rfl ?_
  refine r_extract rfl rfl rfl ?_
  refine r_extract rfl rfl rfl ?_
  refine r_assign rfl rfl ?_
  refine r_assign rfl rfl ?_
  refine awl_nil ?_
  refine x_then ?_
  refine awp_seq ?_
  refine awp_region ?_
  refine r_move rfl rfl ?_
  refine r_not rfl rfl ?_
  refine awl_nil ?_
  refine x_then ?_
  refine awp_cond rfl (fun hc1 => ?_) (fun hc1 => ?_)
  ·
   have hg : (mget (firstM (l.take k)) x.name).isSome = false := by simpa using hc1
   refine awp_drawS [24, 25, 26, 27, 28, 29] [_, _, _, _, _, _] [] [] TF.mixed rfl rfl rfl ⟨⟨⟨⟨⟨⟨trivial
    , ⟨_, rfl, fun sl hd hr ho => by
      refine r_move (hr 3 _ rfl rfl rfl) rfl ?_
      exact awl_nil ⟨rfl, post_put⟩⟩⟩
    , ⟨_, rfl, fun sl hd hr ho => by
      first | (refine r_fieldb (hr 5 _ rfl rfl rfl) TF.f48_0 TF.sz9 rfl ?_) | (refine r_fieldcp (hr 5 _ rfl rfl rfl) TF.f48_0 TF.sz9 rfl ?_)
      exact awl_nil ⟨rfl, post_put⟩⟩⟩
    , ⟨_, rfl, fun sl hd hr ho => by
      refine r_load1b 0 (hd 1 _ rfl rfl rfl) rfl rfl TF.agg9 rfl ?_
      exact awl_nil ⟨rfl, post_put⟩⟩⟩
    , ⟨_, rfl, fun sl hd hr ho => by
      first | (refine r_fieldb (hr 5 _ rfl rfl rfl) TF.f48_1 TF.sz34 rfl ?_) | (refine r_fieldcp (hr 5 _ rfl rfl rfl) TF.f48_1 TF.sz34 rfl ?_)
      exact awl_nil ⟨rfl, post_put⟩⟩⟩
    , ⟨_, rfl, fun sl hd hr ho => by
      refine r_load1b 0 (hd 3 _ rfl rfl rfl) rfl rfl TF.agg34 rfl ?_
      exact awl_nil ⟨rfl, post_put⟩⟩⟩
    , ⟨_, rfl, fun sl hd hr ho => by
      refine r_callH hcs hq rfl rfl (.cons (.ev (hd 4 _ rfl rfl rfl) rfl) .nil) (cloneH_ok x.data (hda x (List.mem_of_getElem? hx))) TF.en30 rfl ?_
      exact awl_nil ⟨rfl, post_put⟩⟩⟩
    (by rfl) ?_
   first | (refine r_mapUpdate 0 (keyEnc_string TF.un9) (ev := (hiB Cs)) x.data rfl rfl rfl rfl rfl TF.map55 ?_) | (refine r_mapUpdate 1 (keyEnc_string TF.un9) (ev := (hiB Cs)) x.data rfl rfl rfl rfl rfl TF.map55 ?_)
   refine awl_nil ?_
   refine x_block ?_
   refine x_then ?_
   refine awp_region ?_
   refine r_ari _ rfl rfl rfl (wrap_id (by first | omega | (simp; omega))) rfl ?_
   refine r_move rfl rfl ?_
   refine awl_nil ?_
   refine x_then ?_
   have hst := firstM_step hx
   refine ⟨l.length - (k + 1), ⟨32, [(3, .a (.v (.map (some b8)))), (9, .a (files l)), (10, .a (.v (.int .i64 ((l.map File.cs).length)))), (11, .a (.v (.int .i64 (((k + 1) : Int)))))], [⟨b8, true, .map (encM Value.string (hiB Cs) (firstM (l.take (k + 1))))⟩]⟩, ⟨rfl, (Slots.cons rfl (by first | exact .refl _ | exact .nilOwn _ _ | exact .nilSl _ | exact .ownSl _ _ _  | exact SV.le.of_eq (by simp)) (Slots.cons rfl (by first | exact .refl _ | exact .nilOwn _ _ | exact .nilSl _ | exact .ownSl _ _ _  | exact SV.le.of_eq (by simp)) (Slots.cons rfl (by first | exact .refl _ | exact .nilOwn _ _ | exact .nilSl _ | exact .ownSl _ _ _  | exact SV.le.of_eq (by simp)) (Slots.cons rfl (by first | exact .refl _ | exact .nilOwn _ _ | exact .nilSl _ | exact .ownSl _ _ _  | exact SV.le.of_eq (by simp)) Slots.nil)))), (by rw [hst, hg]; first | exact List.Sublist.refl _ | exact .cons_cons _ (.cons _ (.refl _)) | exact List.nil_sublist _ | exact .cons _ (.refl _) | exact .cons _ (.cons _ (.refl _)) | exact .cons _ (.cons _ (.cons _ (.refl _))) | exact .cons _ (.cons _ (.cons _ (.cons _ (.refl _)))) | exact .cons_cons _ (List.nil_sublist _))⟩, (by omega), ⟨k + 1, rfl, rfl, (by omega)⟩⟩
  ·
   have hg : (mget (firstM (l.take k)) x.name).isSome = true := by simpa using hc1
   refine awp_skip ?_
   refine x_block ?_
   refine x_then ?_
   refine awp_region ?_
   refine r_ari _ rfl rfl rfl (wrap_id (by first | omega | (simp; omega))) rfl ?_
   refine r_move rfl rfl ?_
   refine awl_nil ?_
   refine x_then ?_
   have hst := firstM_step hx
   refine ⟨l.length - (k + 1), ⟨32, [(3, .a (.v (.map (some b8)))), (9, .a (files l)), (10, .a (.v (.int .i64 ((l.map File.cs).length)))), (11, .a (.v (.int .i64 (((k + 1) : Int)))))], [⟨b8, true, .map (encM Value.string (hiB Cs) (firstM (l.take (k + 1))))⟩]⟩, ⟨rfl, (Slots.cons rfl (by first | exact .refl _ | exact .nilOwn _ _ | exact .nilSl _ | exact .ownSl _ _ _  | exact SV.le.of_eq (by simp)) (Slots.cons rfl (by first | exact .refl _ | exact .nilOwn _ _ | exact .nilSl _ | exact .ownSl _ _ _  | exact SV.le.of_eq (by simp)) (Slots.cons rfl (by first | exact .refl _ | exact .nilOwn _ _ | exact .nilSl _ | exact .ownSl _ _ _  | exact SV.le.of_eq (by simp)) (Slots.cons rfl (by first | exact .refl _ | exact .nilOwn _ _ | exact .nilSl _ | exact .ownSl _ _ _  | exact SV.le.of_eq (by simp)) Slots.nil)))), (by rw [hst, hg]; first | exact List.Sublist.refl _ | exact .cons_cons _ (.cons _ (.refl _)) | exact List.nil_sublist _ | exact .cons _ (.refl _) | exact .cons _ (.cons _ (.refl _)) | exact .cons _ (.cons _ (.cons _ (.refl _))) | exact .cons _ (.cons _ (.cons _ (.cons _ (.refl _)))) | exact .cons_cons _ (List.nil_sublist _))⟩, (by omega), ⟨k + 1, rfl, rfl, (by omega)⟩⟩
 ·
  have hge : l.length ≤ k := by have := of_decide_eq_false hc0; simp at this; omega
  rw [List.take_of_length_le hge]
  refine awp_exit ?_
  refine x_thenE ?_
  refine x_thenE ?_
  refine x_blockE ?_
  refine x_then ?_
  refine awp_seq ?_
  refine awp_region ?_
  refine r_move rfl rfl ?_
  refine r_assign rfl rfl ?_
  refine awl_nil ?_
  refine x_then ?_
  refine awp_ret ?_
  exact ⟨(.inl rfl), _, [⟨b8, true, .map (encM Value.string (hiB Cs) (firstM l))⟩], (.one (by first | exact .mk rfl rfl | exact .nil rfl)), ⟨b8, rfl, rfl⟩, (by first | exact List.Sublist.refl _ | exact .cons_cons _ (.cons _ (.refl _)) | exact List.nil_sublist _ | exact .cons _ (.refl _) | exact .cons _ (.cons _ (.refl _)) | exact .cons _ (.cons _ (.cons _ (.refl _))) | exact .cons _ (.cons _ (.cons _ (.cons _ (.refl _)))) | exact .cons_cons _ (List.nil_sublist _)), (by simp)⟩
theorem orderH_ok (Cs : CS) (m : List (ByteArray × List UInt8)) (hnd : (m.map (·.1)).Nodup) (hsz : ∀ s ∈ m.map (·.1), s.size ≤ maxLen) (hlen : m.length ≤ 1000000) {b : Nat} {fl : Bool} : AC Try.prog 29 [.v (.map (some b))] [⟨b, fl, .map (encM Value.string (hiB Cs) m)⟩] (fun r n => n = [] ∧ r = strsA (sortB (m.map (·.1)))) := (order_ok m hnd hsz hlen (b := b) (fl := fl)).le rfl objLe_hi1
theorem alterH_ok (Cs : CS) (m : SM) (c : FC) (hdc : c.data.length ≤ 1000000) {b : Nat} {fl : Bool} : AWC Cs Try.prog 45 [.v (.map (some b)), .agg (FC.cs c)] [] [⟨b, fl, .map (encM Value.string (hiB Cs) m)⟩] (fun r n => r = .v (.int .i64 (alterM m c).1) ∧ n = [⟨b, true, .map (encM Value.string (hiB Cs) (alterM m c).2)⟩]) := by
 refine awc_of_awpG Cs (so := [⟨b, true, .map (encM Value.string (hiB Cs) m)⟩]) (nt := 42) (fun S r => Result1 S [4] r) Try.func45 rfl rfl rfl rfl (result1_run rfl) (fun w0 C0 hq hcs => ?_)
 refine awp_seq ?_
 refine awp_region ?_
 refine r_box rfl rfl rfl (fun b3 => ?_)
 refine r_assign rfl rfl ?_
 refine awl_nil ?_
 refine x_then ?_
 refine awp_seq ?_
 refine awp_seq ?_
 refine awp_region ?_
 first | (refine r_fieldb rfl TF.f50_0 TF.sz3 rfl ?_) | (refine r_fieldcp rfl TF.f50_0 TF.sz3 rfl ?_)
 first | (refine r_load1b 0 rfl rfl rfl TF.agg3 rfl ?_) | (refine r_load1 rfl TF.agg3 rfl ?_) | (refine r_load1b 1 rfl rfl rfl TF.agg3 rfl ?_)
 refine awl_nil ?_
 refine x_then ?_
 refine awp_block ?_
 refine awp_seq ?_
 refine awp_region ?_
 refine r_cmp rfl rfl rfl rfl ?_
 refine r_assign rfl rfl ?_
 refine awl_nil ?_
 refine x_then ?_
 refine awp_cond rfl (fun hc0 => ?_) (fun hc0 => ?_)
 ·
  have hk2 : c.kind = 2 := eq_of_beq hc0
  have ha : alterM m c = (0, mdel m c.name) := by simp [alterM, hk2]
  refine awp_region ?_
  refine r_move rfl rfl ?_
  first | (refine r_fieldb rfl TF.f50_1 TF.sz9 rfl ?_) | (refine r_fieldcp rfl TF.f50_1 TF.sz9 rfl ?_)
  first | (refine r_load1b 0 rfl rfl rfl TF.agg9 rfl ?_) | (refine r_load1 rfl TF.agg9 rfl ?_) | (refine r_load1b 1 rfl rfl rfl TF.agg9 rfl ?_)
  first | (refine r_delete 0 (keyEnc_string TF.un9) rfl rfl rfl TF.map55 ?_) | (refine r_delete 1 (keyEnc_string TF.un9) rfl rfl rfl TF.map55 ?_)
  refine awl_nil ?_
  refine x_block ?_
  refine x_then ?_
  refine awp_seq ?_
  refine awp_region ?_
  refine r_assign rfl rfl ?_
  refine awl_nil ?_
  refine x_then ?_
  refine awp_ret ?_
  exact ⟨(.inl rfl), _, [⟨b, true, .map (encM Value.string (hiB Cs) (alterM m c).2)⟩], (.one (by first | exact .mk rfl rfl | exact .nil rfl)), ⟨by rw [ha]; rfl, rfl⟩, (by rw [ha]; first | exact .cons _ (.refl _) | exact .cons_cons _ (List.nil_sublist _) | exact List.Sublist.refl _), (by simp)⟩
 ·
  have hk2 : ¬ c.kind = 2 := by simpa using hc0
  refine awp_seq ?_
  refine awp_region ?_
  refine r_cmp rfl rfl rfl rfl ?_
  refine r_assign rfl rfl ?_
  refine awl_nil ?_
  refine x_then ?_
  refine awp_cond rfl (fun hc1 => ?_) (fun hc1 => ?_)
  ·
   have hk3 : c.kind = 3 := eq_of_beq hc1
   have ha : alterM m c = (0, mset m c.name c.data) := by simp [alterM, hk3]
   refine awp_drawS [16, 17, 18, 19, 20, 21] [_, _, _, _, _, _] [] [] TF.mixed rfl rfl rfl ⟨⟨⟨⟨⟨⟨trivial
    , ⟨_, rfl, fun sl hd hr ho => by
      refine r_move (hr 0 _ rfl rfl rfl) rfl ?_
      exact awl_nil ⟨rfl, post_put⟩⟩⟩
    , ⟨_, rfl, fun sl hd hr ho => by
      first | (refine r_fieldb (hr 3 _ rfl rfl rfl) TF.f50_1 TF.sz9 rfl ?_) | (refine r_fieldcp (hr 3 _ rfl rfl rfl) TF.f50_1 TF.sz9 rfl ?_)
      exact awl_nil ⟨rfl, post_put⟩⟩⟩
    , ⟨_, rfl, fun sl hd hr ho => by
      first | (refine r_load1b 0 (hd 1 _ rfl rfl rfl) rfl rfl TF.agg9 rfl ?_) | (refine r_load1 (hd 1 _ rfl rfl rfl) TF.agg9 rfl ?_) | (refine r_load1b 1 (hd 1 _ rfl rfl rfl) rfl rfl TF.agg9 rfl ?_)
      exact awl_nil ⟨rfl, post_put⟩⟩⟩
    , ⟨_, rfl, fun sl hd hr ho => by
      first | (refine r_fieldb (hr 3 _ rfl rfl rfl) TF.f50_3 TF.sz34 rfl ?_) | (refine r_fieldcp (hr 3 _ rfl rfl rfl) TF.f50_3 TF.sz34 rfl ?_)
      exact awl_nil ⟨rfl, post_put⟩⟩⟩
    , ⟨_, rfl, fun sl hd hr ho => by
      first | (refine r_load1b 0 (hd 3 _ rfl rfl rfl) rfl rfl TF.agg34 rfl ?_) | (refine r_load1 (hd 3 _ rfl rfl rfl) TF.agg34 rfl ?_) | (refine r_load1b 1 (hd 3 _ rfl rfl rfl) rfl rfl TF.agg34 rfl ?_)
      exact awl_nil ⟨rfl, post_put⟩⟩⟩
    , ⟨_, rfl, fun sl hd hr ho => by
      refine r_callH hcs hq rfl rfl (.cons (.ev (hd 4 _ rfl rfl rfl) rfl) .nil) (cloneH_ok c.data hdc) TF.en30 rfl ?_
      exact awl_nil ⟨rfl, post_put⟩⟩⟩
    (by rfl) ?_
   first | (refine r_mapUpdate 0 (keyEnc_string TF.un9) (ev := (hiB Cs)) _ rfl rfl rfl rfl rfl TF.map55 ?_) | (refine r_mapUpdate 1 (keyEnc_string TF.un9) (ev := (hiB Cs)) _ rfl rfl rfl rfl rfl TF.map55 ?_)
   refine awl_nil ?_
   refine x_block ?_
   refine x_then ?_
   refine awp_seq ?_
   refine awp_region ?_
   refine r_assign rfl rfl ?_
   refine awl_nil ?_
   refine x_then ?_
   refine awp_ret ?_
   exact ⟨(.inl rfl), _, [⟨b, true, .map (encM Value.string (hiB Cs) (alterM m c).2)⟩], (.one (by first | exact .mk rfl rfl | exact .nil rfl)), ⟨by rw [ha]; rfl, rfl⟩, (by rw [ha]; first | exact .cons _ (.refl _) | exact .cons_cons _ (List.nil_sublist _) | exact List.Sublist.refl _), (by simp)⟩
  ·
   have hk3 : ¬ c.kind = 3 := by simpa using hc1
   refine awp_seq ?_
   refine awp_region ?_
   refine r_cmp rfl rfl rfl rfl ?_
   refine r_assign rfl rfl ?_
   refine awl_nil ?_
   refine x_then ?_
   refine awp_cond rfl (fun hc2 => ?_) (fun hc2 => ?_)
   ·
    have hk4 : c.kind = 4 := eq_of_beq hc2
    refine awp_seq ?_
    refine awp_seq ?_
    refine awp_region ?_
    refine r_move rfl rfl ?_
    first | (refine r_fieldb rfl TF.f50_2 TF.sz9 rfl ?_) | (refine r_fieldcp rfl TF.f50_2 TF.sz9 rfl ?_)
    first | (refine r_load1b 0 rfl rfl rfl TF.agg9 rfl ?_) | (refine r_load1 rfl TF.agg9 rfl ?_) | (refine r_load1b 1 rfl rfl rfl TF.agg9 rfl ?_)
    first | (refine r_lookupOk 0 (keyEnc_string TF.un9) (ev := (hiB Cs)) [] rfl rfl rfl TF.map55 (TF.zavH Cs) rfl ?_) | (refine r_lookupOk 1 (keyEnc_string TF.un9) (ev := (hiB Cs)) [] rfl rfl rfl TF.map55 (TF.zavH Cs) rfl ?_)
    refine r_move rfl rfl ?_
    refine r_extract rfl rfl rfl ?_
    refine r_extract rfl rfl rfl ?_
    refine r_assign rfl rfl ?_
    refine r_assign rfl rfl ?_
    refine awl_nil ?_
    refine x_then ?_
    refine awp_seq ?_
    refine awp_region ?_
    refine r_move rfl rfl ?_
    refine awl_nil ?_
    refine x_then ?_
    refine awp_cond rfl (fun hc3 => ?_) (fun hc3 => ?_)
    ·
     have ha : alterM m c = (5, m) := by simp only [alterM, hk4]; simp; intro h; rw [h] at hc3; cases hc3
     refine awp_seq ?_
     refine awp_region ?_
     refine r_assign rfl rfl ?_
     refine awl_nil ?_
     refine x_then ?_
     refine awp_ret ?_
     refine x_thenR ?_
     refine x_blockR ?_
     refine x_thenR ?_
     exact ⟨(.inl rfl), _, [⟨b, true, .map (encM Value.string (hiB Cs) (alterM m c).2)⟩], (.one (by first | exact .mk rfl rfl | exact .nil rfl)), ⟨by rw [ha]; rfl, rfl⟩, (by rw [ha]; first | exact .cons _ (.refl _) | exact .cons_cons _ (List.nil_sublist _) | exact List.Sublist.refl _), (by simp)⟩
    ·
     have ha : alterM m c = (0, mdel (mset m c.to ((mget m c.name).getD [])) c.name) := by simp only [alterM, hk4]; simp; simpa using hc3
     refine awp_skip ?_
     refine x_then ?_
     refine awp_seq ?_
     refine awp_region ?_
     refine r_move rfl rfl ?_
     first | (refine r_fieldb rfl TF.f50_2 TF.sz9 rfl ?_) | (refine r_fieldcp rfl TF.f50_2 TF.sz9 rfl ?_)
     first | (refine r_load1b 0 rfl rfl rfl TF.agg9 rfl ?_) | (refine r_load1 rfl TF.agg9 rfl ?_) | (refine r_load1b 1 rfl rfl rfl TF.agg9 rfl ?_)
     refine r_move rfl rfl ?_
     first | (refine r_fieldb rfl TF.f50_1 TF.sz9 rfl ?_) | (refine r_fieldcp rfl TF.f50_1 TF.sz9 rfl ?_)
     first | (refine r_load1b 0 rfl rfl rfl TF.agg9 rfl ?_) | (refine r_load1 rfl TF.agg9 rfl ?_) | (refine r_load1b 1 rfl rfl rfl TF.agg9 rfl ?_)
     first | (refine r_lookup 0 (keyEnc_string TF.un9) (ev := (hiB Cs)) [] rfl rfl rfl TF.map55 (TF.zavH Cs) rfl ?_) | (refine r_lookup 1 (keyEnc_string TF.un9) (ev := (hiB Cs)) [] rfl rfl rfl TF.map55 (TF.zavH Cs) rfl ?_)
     first | (refine r_mapUpdate 0 (keyEnc_string TF.un9) (ev := (hiB Cs)) _ rfl rfl rfl rfl rfl TF.map55 ?_) | (refine r_mapUpdate 1 (keyEnc_string TF.un9) (ev := (hiB Cs)) _ rfl rfl rfl rfl rfl TF.map55 ?_)
     refine awl_nil ?_
     refine x_then ?_
     refine awp_region ?_
     refine r_move rfl rfl ?_
     first | (refine r_fieldb rfl TF.f50_1 TF.sz9 rfl ?_) | (refine r_fieldcp rfl TF.f50_1 TF.sz9 rfl ?_)
     first | (refine r_load1b 0 rfl rfl rfl TF.agg9 rfl ?_) | (refine r_load1 rfl TF.agg9 rfl ?_) | (refine r_load1b 1 rfl rfl rfl TF.agg9 rfl ?_)
     first | (refine r_delete 0 (keyEnc_string TF.un9) rfl rfl rfl TF.map55 ?_) | (refine r_delete 1 (keyEnc_string TF.un9) rfl rfl rfl TF.map55 ?_)
     refine awl_nil ?_
     refine x_block ?_
     refine x_then ?_
     refine awp_seq ?_
     refine awp_region ?_
     refine r_assign rfl rfl ?_
     refine awl_nil ?_
     refine x_then ?_
     refine awp_ret ?_
     exact ⟨(.inl rfl), _, [⟨b, true, .map (encM Value.string (hiB Cs) (alterM m c).2)⟩], (.one (by first | exact .mk rfl rfl | exact .nil rfl)), ⟨by rw [ha]; rfl, rfl⟩, (by rw [ha]; first | exact .cons _ (.refl _) | exact .cons_cons _ (List.nil_sublist _) | exact List.Sublist.refl _), (by simp)⟩
   ·
    have hk4 : ¬ c.kind = 4 := by simpa using hc2
    have ha : alterM m c = (0, m) := by simp [alterM, hk2, hk3, hk4]
    refine awp_skip ?_
    refine x_block ?_
    refine x_then ?_
    refine awp_seq ?_
    refine awp_region ?_
    refine r_assign rfl rfl ?_
    refine awl_nil ?_
    refine x_then ?_
    refine awp_ret ?_
    exact ⟨(.inl rfl), _, [⟨b, true, .map (encM Value.string (hiB Cs) (alterM m c).2)⟩], (.one (by first | exact .mk rfl rfl | exact .nil rfl)), ⟨by rw [ha]; rfl, rfl⟩, (by rw [ha]; first | exact .cons _ (.refl _) | exact .cons_cons _ (List.nil_sublist _) | exact List.Sublist.refl _), (by simp)⟩
theorem stepH_ok (Cs : CS) (m : SM) (c : FC) (hdc : c.data.length ≤ 1000000) {b : Nat} {fl : Bool} : AWC Cs Try.prog 34 [.v (.map (some b)), .agg (FC.cs c)] [] [⟨b, fl, .map (encM Value.string (hiB Cs) m)⟩] (fun r n => r = .v (.int .i64 (stepM m c).1) ∧ n = [⟨b, true, .map (encM Value.string (hiB Cs) (stepM m c).2)⟩]) := by
 refine awc_of_awpG Cs (so := [⟨b, true, .map (encM Value.string (hiB Cs) m)⟩]) (nt := 34) (fun S r => Result1 S [4] r) Try.func34 rfl rfl rfl rfl (result1_run rfl) (fun w0 C0 hq hcs => ?_)
 refine awp_seq ?_
 refine awp_region ?_
 refine r_box rfl rfl rfl (fun b3 => ?_)
 refine r_assign rfl rfl ?_
 refine awl_nil ?_
 refine x_then ?_
 refine awp_seq ?_
 refine awp_region ?_
 refine r_move rfl rfl ?_
 first | (refine r_fieldb rfl TF.f50_1 TF.sz9 rfl ?_) | (refine r_fieldcp rfl TF.f50_1 TF.sz9 rfl ?_)
 first | (refine r_load1b 0 rfl rfl rfl TF.agg9 rfl ?_) | (refine r_load1 rfl TF.agg9 rfl ?_) | (refine r_load1b 1 rfl rfl rfl TF.agg9 rfl ?_)
 first | (refine r_lookupOk 0 (keyEnc_string TF.un9) (ev := (hiB Cs)) [] rfl rfl rfl TF.map55 (TF.zavH Cs) rfl ?_) | (refine r_lookupOk 1 (keyEnc_string TF.un9) (ev := (hiB Cs)) [] rfl rfl rfl TF.map55 (TF.zavH Cs) rfl ?_)
 refine r_move rfl rfl ?_
 refine r_extract rfl rfl rfl ?_
 refine r_extract rfl rfl rfl ?_
 refine r_assign rfl rfl ?_
 refine r_assign rfl rfl ?_
 refine awl_nil ?_
 refine x_then ?_
 refine awp_seq ?_
 refine awp_seq ?_
 refine awp_region ?_
 first | (refine r_fieldb rfl TF.f50_0 TF.sz3 rfl ?_) | (refine r_fieldcp rfl TF.f50_0 TF.sz3 rfl ?_)
 first | (refine r_load1b 0 rfl rfl rfl TF.agg3 rfl ?_) | (refine r_load1 rfl TF.agg3 rfl ?_) | (refine r_load1b 1 rfl rfl rfl TF.agg3 rfl ?_)
 refine awl_nil ?_
 refine x_then ?_
 refine awp_block ?_
 refine awp_seq ?_
 refine awp_region ?_
 refine r_cmp rfl rfl rfl rfl ?_
 refine r_assign rfl rfl ?_
 refine awl_nil ?_
 refine x_then ?_
 refine awp_cond rfl (fun hc0 => ?_) (fun hc0 => ?_)
 ·
  have hk1 : c.kind = 1 := eq_of_beq hc0
  refine awp_seq ?_
  refine awp_seq ?_
  refine awp_region ?_
  refine r_move rfl rfl ?_
  refine awl_nil ?_
  refine x_then ?_
  refine awp_cond rfl (fun hc1 => ?_) (fun hc1 => ?_)
  ·
   have ha : stepM m c = (5, m) := by simp only [stepM, hk1]; simp; intro h; rw [h] at hc1; cases hc1
   refine awp_seq ?_
   refine awp_region ?_
   refine r_assign rfl rfl ?_
   refine awl_nil ?_
   refine x_then ?_
   refine awp_ret ?_
   refine x_thenR ?_
   refine x_blockR ?_
   refine x_thenR ?_
   exact ⟨(.inl rfl), _, [⟨b, true, .map (encM Value.string (hiB Cs) (stepM m c).2)⟩], (.one (by first | exact .mk rfl rfl | exact .nil rfl)), ⟨by rw [ha]; rfl, rfl⟩, (by rw [ha]; first | exact .cons _ (.refl _) | exact .cons_cons _ (List.nil_sublist _) | exact List.Sublist.refl _), (by simp)⟩
  ·
   have ha : stepM m c = (0, mset m c.name c.data) := by simp only [stepM, hk1]; simp; simpa using hc1
   refine awp_skip ?_
   refine x_then ?_
   refine awp_drawS [19, 20, 21, 22, 23, 24] [_, _, _, _, _, _] [] [] TF.mixed rfl rfl rfl ⟨⟨⟨⟨⟨⟨trivial
    , ⟨_, rfl, fun sl hd hr ho => by
      refine r_move (hr 0 _ rfl rfl rfl) rfl ?_
      exact awl_nil ⟨rfl, post_put⟩⟩⟩
    , ⟨_, rfl, fun sl hd hr ho => by
      first | (refine r_fieldb (hr 3 _ rfl rfl rfl) TF.f50_1 TF.sz9 rfl ?_) | (refine r_fieldcp (hr 3 _ rfl rfl rfl) TF.f50_1 TF.sz9 rfl ?_)
      exact awl_nil ⟨rfl, post_put⟩⟩⟩
    , ⟨_, rfl, fun sl hd hr ho => by
      first | (refine r_load1b 0 (hd 1 _ rfl rfl rfl) rfl rfl TF.agg9 rfl ?_) | (refine r_load1 (hd 1 _ rfl rfl rfl) TF.agg9 rfl ?_) | (refine r_load1b 1 (hd 1 _ rfl rfl rfl) rfl rfl TF.agg9 rfl ?_)
      exact awl_nil ⟨rfl, post_put⟩⟩⟩
    , ⟨_, rfl, fun sl hd hr ho => by
      first | (refine r_fieldb (hr 3 _ rfl rfl rfl) TF.f50_3 TF.sz34 rfl ?_) | (refine r_fieldcp (hr 3 _ rfl rfl rfl) TF.f50_3 TF.sz34 rfl ?_)
      exact awl_nil ⟨rfl, post_put⟩⟩⟩
    , ⟨_, rfl, fun sl hd hr ho => by
      first | (refine r_load1b 0 (hd 3 _ rfl rfl rfl) rfl rfl TF.agg34 rfl ?_) | (refine r_load1 (hd 3 _ rfl rfl rfl) TF.agg34 rfl ?_) | (refine r_load1b 1 (hd 3 _ rfl rfl rfl) rfl rfl TF.agg34 rfl ?_)
      exact awl_nil ⟨rfl, post_put⟩⟩⟩
    , ⟨_, rfl, fun sl hd hr ho => by
      refine r_callH hcs hq rfl rfl (.cons (.ev (hd 4 _ rfl rfl rfl) rfl) .nil) (cloneH_ok c.data hdc) TF.en30 rfl ?_
      exact awl_nil ⟨rfl, post_put⟩⟩⟩
    (by rfl) ?_
   first | (refine r_mapUpdate 0 (keyEnc_string TF.un9) (ev := (hiB Cs)) c.data rfl rfl rfl rfl rfl TF.map55 ?_) | (refine r_mapUpdate 1 (keyEnc_string TF.un9) (ev := (hiB Cs)) c.data rfl rfl rfl rfl rfl TF.map55 ?_)
   refine awl_nil ?_
   refine x_block ?_
   refine x_then ?_
   refine awp_seq ?_
   refine awp_region ?_
   refine r_assign rfl rfl ?_
   refine awl_nil ?_
   refine x_then ?_
   refine awp_ret ?_
   exact ⟨(.inl rfl), _, [⟨b, true, .map (encM Value.string (hiB Cs) (stepM m c).2)⟩], (.one (by first | exact .mk rfl rfl | exact .nil rfl)), ⟨by rw [ha]; rfl, rfl⟩, (by rw [ha]; first | exact .cons _ (.refl _) | exact .cons_cons _ (List.nil_sublist _) | exact List.Sublist.refl _), (by simp)⟩
 ·
  have hk1 : ¬ c.kind = 1 := by simpa using hc0
  refine awp_seq ?_
  refine awp_seq ?_
  refine awp_region ?_
  refine r_cmp rfl rfl rfl rfl ?_
  refine r_assign rfl rfl ?_
  refine awl_nil ?_
  refine x_then ?_
  refine awp_cond rfl (fun hc2 => ?_) (fun hc2 => ?_)
  ·
   have hkk : c.kind = 2 ∨ c.kind = 3 ∨ c.kind = 4 := .inl (eq_of_beq hc2)
   refine awp_skip ?_
   refine x_then ?_
   refine awp_cond rfl (fun hc4 => ?_) (fun hc4 => ?_)
   ·
    refine awp_seq ?_
    refine awp_seq ?_
    refine awp_region ?_
    refine r_move rfl rfl ?_
    refine r_not rfl rfl ?_
    refine awl_nil ?_
    refine x_then ?_
    refine awp_cond rfl (fun hc5 => ?_) (fun hc5 => ?_)
    ·
     have ha : stepM m c = (4, m) := by simp only [stepM, hk1, if_false, if_pos hkk]; rw [if_neg (by simpa using hc5)]
     refine awp_seq ?_
     refine awp_region ?_
     refine r_assign rfl rfl ?_
     refine awl_nil ?_
     refine x_then ?_
     refine awp_ret ?_
     refine x_thenR ?_
     refine x_blockR ?_
     refine x_thenR ?_
     exact ⟨(.inl rfl), _, [⟨b, true, .map (encM Value.string (hiB Cs) (stepM m c).2)⟩], (.one (by first | exact .mk rfl rfl | exact .nil rfl)), ⟨by rw [ha]; rfl, rfl⟩, (by rw [ha]; first | exact .cons _ (.refl _) | exact .cons_cons _ (List.nil_sublist _) | exact List.Sublist.refl _), (by simp)⟩
    ·
     have ha : stepM m c = alterM m c := by simp only [stepM, hk1, if_false, if_pos hkk]; rw [if_pos (by simpa using hc5)]
     refine awp_skip ?_
     refine x_then ?_
     refine awp_seq ?_
     refine awp_region ?_
     refine r_move rfl rfl ?_
     first | (refine r_loadAb 0 rfl rfl TF.agg50 TF.sz50 rfl rfl ?_) | (refine r_loadA rfl TF.agg50 TF.sz50 rfl rfl ?_) | (refine r_loadAb 1 rfl rfl TF.agg50 TF.sz50 rfl rfl ?_)
     refine r_callPC hq Cs hcs (wo := [⟨b, true, .map (encM Value.string (hiB Cs) m)⟩]) (un := [⟨b3, true, .box (FC.cs c)⟩]) rfl rfl (.cons (.ev rfl rfl) (.cons (.ev rfl rfl) .nil)) (alterH_ok Cs m c hdc) rfl TF.en45 (List.Perm.swap _ _ _) (List.nil_sublist _) rfl (fun r nobjs hr => ?_)
     obtain ⟨rfl, rfl⟩ := hr
     refine r_assign rfl rfl ?_
     refine awl_nil ?_
     refine x_then ?_
     refine awp_ret ?_
     refine x_blockR ?_
     refine x_thenR ?_
     exact ⟨(.inl rfl), _, [⟨b, true, .map (encM Value.string (hiB Cs) (stepM m c).2)⟩], (.one (by first | exact .mk rfl rfl | exact .nil rfl)), ⟨by rw [ha]; rfl, rfl⟩, (by rw [ha]; first | exact .cons _ (.refl _) | exact .cons_cons _ (List.nil_sublist _) | exact List.Sublist.refl _), (by simp)⟩
   ·
    exfalso; rw [hc2] at hc4; cases hc4
  ·
   have hk2 : ¬ c.kind = 2 := by simpa using hc2
   refine awp_seq ?_
   refine awp_region ?_
   refine r_cmp rfl rfl rfl rfl ?_
   refine r_assign rfl rfl ?_
   refine awl_nil ?_
   refine x_then ?_
   refine awp_cond rfl (fun hc3 => ?_) (fun hc3 => ?_)
   ·
    have hkk : c.kind = 2 ∨ c.kind = 3 ∨ c.kind = 4 := .inr (.inl (eq_of_beq hc3))
    refine awp_skip ?_
    refine x_then ?_
    refine awp_cond rfl (fun hc4 => ?_) (fun hc4 => ?_)
    ·
     refine awp_seq ?_
     refine awp_seq ?_
     refine awp_region ?_
     refine r_move rfl rfl ?_
     refine r_not rfl rfl ?_
     refine awl_nil ?_
     refine x_then ?_
     refine awp_cond rfl (fun hc5 => ?_) (fun hc5 => ?_)
     ·
      have ha : stepM m c = (4, m) := by simp only [stepM, hk1, if_false, if_pos hkk]; rw [if_neg (by simpa using hc5)]
      refine awp_seq ?_
      refine awp_region ?_
      refine r_assign rfl rfl ?_
      refine awl_nil ?_
      refine x_then ?_
      refine awp_ret ?_
      refine x_thenR ?_
      refine x_blockR ?_
      refine x_thenR ?_
      exact ⟨(.inl rfl), _, [⟨b, true, .map (encM Value.string (hiB Cs) (stepM m c).2)⟩], (.one (by first | exact .mk rfl rfl | exact .nil rfl)), ⟨by rw [ha]; rfl, rfl⟩, (by rw [ha]; first | exact .cons _ (.refl _) | exact .cons_cons _ (List.nil_sublist _) | exact List.Sublist.refl _), (by simp)⟩
     ·
      have ha : stepM m c = alterM m c := by simp only [stepM, hk1, if_false, if_pos hkk]; rw [if_pos (by simpa using hc5)]
      refine awp_skip ?_
      refine x_then ?_
      refine awp_seq ?_
      refine awp_region ?_
      refine r_move rfl rfl ?_
      first | (refine r_loadAb 0 rfl rfl TF.agg50 TF.sz50 rfl rfl ?_) | (refine r_loadA rfl TF.agg50 TF.sz50 rfl rfl ?_) | (refine r_loadAb 1 rfl rfl TF.agg50 TF.sz50 rfl rfl ?_)
      refine r_callPC hq Cs hcs (wo := [⟨b, true, .map (encM Value.string (hiB Cs) m)⟩]) (un := [⟨b3, true, .box (FC.cs c)⟩]) rfl rfl (.cons (.ev rfl rfl) (.cons (.ev rfl rfl) .nil)) (alterH_ok Cs m c hdc) rfl TF.en45 (List.Perm.swap _ _ _) (List.nil_sublist _) rfl (fun r nobjs hr => ?_)
      obtain ⟨rfl, rfl⟩ := hr
      refine r_assign rfl rfl ?_
      refine awl_nil ?_
      refine x_then ?_
      refine awp_ret ?_
      refine x_blockR ?_
      refine x_thenR ?_
      exact ⟨(.inl rfl), _, [⟨b, true, .map (encM Value.string (hiB Cs) (stepM m c).2)⟩], (.one (by first | exact .mk rfl rfl | exact .nil rfl)), ⟨by rw [ha]; rfl, rfl⟩, (by rw [ha]; first | exact .cons _ (.refl _) | exact .cons_cons _ (List.nil_sublist _) | exact List.Sublist.refl _), (by simp)⟩
    ·
     exfalso; rw [hc3] at hc4; cases hc4
   ·
    have hk3 : ¬ c.kind = 3 := by simpa using hc3
    refine awp_region ?_
    refine r_cmp rfl rfl rfl rfl ?_
    refine r_assign rfl rfl ?_
    refine awl_nil ?_
    refine x_then ?_
    refine awp_cond rfl (fun hc4 => ?_) (fun hc4 => ?_)
    ·
     have hkk : c.kind = 2 ∨ c.kind = 3 ∨ c.kind = 4 := .inr (.inr (eq_of_beq hc4))
     refine awp_seq ?_
     refine awp_seq ?_
     refine awp_region ?_
     refine r_move rfl rfl ?_
     refine r_not rfl rfl ?_
     refine awl_nil ?_
     refine x_then ?_
     refine awp_cond rfl (fun hc5 => ?_) (fun hc5 => ?_)
     ·
      have ha : stepM m c = (4, m) := by simp only [stepM, hk1, if_false, if_pos hkk]; rw [if_neg (by simpa using hc5)]
      refine awp_seq ?_
      refine awp_region ?_
      refine r_assign rfl rfl ?_
      refine awl_nil ?_
      refine x_then ?_
      refine awp_ret ?_
      refine x_thenR ?_
      refine x_blockR ?_
      refine x_thenR ?_
      exact ⟨(.inl rfl), _, [⟨b, true, .map (encM Value.string (hiB Cs) (stepM m c).2)⟩], (.one (by first | exact .mk rfl rfl | exact .nil rfl)), ⟨by rw [ha]; rfl, rfl⟩, (by rw [ha]; first | exact .cons _ (.refl _) | exact .cons_cons _ (List.nil_sublist _) | exact List.Sublist.refl _), (by simp)⟩
     ·
      have ha : stepM m c = alterM m c := by simp only [stepM, hk1, if_false, if_pos hkk]; rw [if_pos (by simpa using hc5)]
      refine awp_skip ?_
      refine x_then ?_
      refine awp_seq ?_
      refine awp_region ?_
      refine r_move rfl rfl ?_
      first | (refine r_loadAb 0 rfl rfl TF.agg50 TF.sz50 rfl rfl ?_) | (refine r_loadA rfl TF.agg50 TF.sz50 rfl rfl ?_) | (refine r_loadAb 1 rfl rfl TF.agg50 TF.sz50 rfl rfl ?_)
      refine r_callPC hq Cs hcs (wo := [⟨b, true, .map (encM Value.string (hiB Cs) m)⟩]) (un := [⟨b3, true, .box (FC.cs c)⟩]) rfl rfl (.cons (.ev rfl rfl) (.cons (.ev rfl rfl) .nil)) (alterH_ok Cs m c hdc) rfl TF.en45 (List.Perm.swap _ _ _) (List.nil_sublist _) rfl (fun r nobjs hr => ?_)
      obtain ⟨rfl, rfl⟩ := hr
      refine r_assign rfl rfl ?_
      refine awl_nil ?_
      refine x_then ?_
      refine awp_ret ?_
      refine x_blockR ?_
      refine x_thenR ?_
      exact ⟨(.inl rfl), _, [⟨b, true, .map (encM Value.string (hiB Cs) (stepM m c).2)⟩], (.one (by first | exact .mk rfl rfl | exact .nil rfl)), ⟨by rw [ha]; rfl, rfl⟩, (by rw [ha]; first | exact .cons _ (.refl _) | exact .cons_cons _ (List.nil_sublist _) | exact List.Sublist.refl _), (by simp)⟩
    ·
     have hk4 : ¬ c.kind = 4 := by simpa using hc4
     have ha : stepM m c = (18, m) := by simp [stepM, hk1, hk2, hk3, hk4]
     refine awp_seq ?_
     refine awp_region ?_
     refine r_assign rfl rfl ?_
     refine awl_nil ?_
     refine x_then ?_
     refine awp_ret ?_
     refine x_blockR ?_
     refine x_thenR ?_
     exact ⟨(.inl rfl), _, [⟨b, true, .map (encM Value.string (hiB Cs) (stepM m c).2)⟩], (.one (by first | exact .mk rfl rfl | exact .nil rfl)), ⟨by rw [ha]; rfl, rfl⟩, (by rw [ha]; first | exact .cons _ (.refl _) | exact .cons_cons _ (List.nil_sublist _) | exact List.Sublist.refl _), (by simp)⟩
set_option maxHeartbeats 1000000 in
theorem applyH_ok (Cs : CS) (l : List File) (d : List FC) (hl : l.length ≤ 1000) (hld : d.length ≤ 10000) (hln : ∀ f ∈ l, f.name.size ≤ 1000000) (hdl : ∀ f ∈ l, f.data.length ≤ 1000000) (hdn : ∀ c ∈ d, c.name.size ≤ 1000000 ∧ c.to.size ≤ 1000000 ∧ c.data.length ≤ 1000000) : AWC Cs Try.prog 16 [files l, fcsA d] [] [] (fun r n => (∃ m r0, applyM (firstM l) d = (0, m) ∧ r = .tup [r0, .v (.int .i64 0)] ∧ GrowB 2 ((filesM m).map (File.csH Cs)) r0 n) ∨ (∃ e m, applyM (firstM l) d = (e, m) ∧ ¬ e = 0)) := by
 refine awc_of_awpG Cs (so := []) (nt := 45) (fun S r => Result1 S [4, 5] r) Try.func16 rfl rfl rfl rfl (result1_run rfl) (fun w0 C0 hq hcs => ?_)
 refine awp_seq ?_
 refine awp_region ?_
 refine r_assign rfl rfl ?_
 refine r_assign rfl rfl ?_
 refine awl_nil ?_
 refine x_then ?_
 refine awp_seq ?_
 refine awp_region ?_
 refine r_move rfl rfl ?_
 refine r_callPC hq Cs hcs (wo := []) (un := []) rfl rfl (.cons (.ev rfl rfl) .nil) (namedH_ok Cs l (by omega) hdl) rfl TF.en23 (List.Perm.refl _) (List.nil_sublist _) rfl (fun r nobjs hr => ?_)
 obtain ⟨bm, rfl, rfl⟩ := hr
 refine r_assign rfl rfl ?_
 refine awl_nil ?_
 refine x_then ?_
 refine awp_seq ?_
 refine awp_seq ?_
 refine awp_region ?_
 refine r_move rfl rfl ?_
 first | (refine r_lenS rfl rfl TF.sl28 rfl ?_) | (refine r_lenNil rfl TF.sl28 rfl ?_) | (refine r_lenV rfl TF.sl28 rfl ?_)
 refine r_move rfl rfl ?_
 refine awl_nil ?_
 refine x_then ?_
 refine awp_block ?_
 refine awp_loop (fun nn0 S => ∃ k : Nat, ∃ m : SM, S = ⟨45, [(6, .a (.v (.map (some bm)))), (15, .a (fcsA d)), (16, .a (.v (.int .i64 ((d.map FC.cs).length)))), (17, .a (.v (.int .i64 ((k : Int)))))], [⟨bm, true, .map (encM Value.string (hiB Cs) m)⟩]⟩ ∧ nn0 = d.length - k ∧ (k ≤ d.length) ∧ (applyM (firstM l) (d.take k) = (0, m)) ∧ (OkM m (l.length + k))) (d.length - (0)) ⟨45, [(6, .a (.v (.map (some bm)))), (15, .a (fcsA d)), (16, .a (.v (.int .i64 ((d.map FC.cs).length)))), (17, .a (.v (.int .i64 (((0) : Int)))))], [⟨bm, true, .map (encM Value.string (hiB Cs) ((firstM l)))⟩]⟩ ⟨rfl, (Slots.cons rfl (by first | exact .refl _ | exact .nilOwn _ _ | exact .nilSl _ | exact .ownSl _ _ _  | exact SV.le.of_eq (by simp)) (Slots.cons rfl (by first | exact .refl _ | exact .nilOwn _ _ | exact .nilSl _ | exact .ownSl _ _ _  | exact SV.le.of_eq (by simp)) (Slots.cons rfl (by first | exact .refl _ | exact .nilOwn _ _ | exact .nilSl _ | exact .ownSl _ _ _  | exact SV.le.of_eq (by simp)) (Slots.cons rfl (by first | exact .refl _ | exact .nilOwn _ _ | exact .nilSl _ | exact .ownSl _ _ _  | exact SV.le.of_eq (by simp)) Slots.nil)))), (by first | exact List.Sublist.refl _ | exact .cons_cons _ (.cons _ (.refl _)) | exact List.nil_sublist _ | exact .cons _ (.refl _) | exact .cons _ (.cons _ (.refl _)) | exact .cons _ (.cons _ (.cons _ (.refl _))) | exact .cons _ (.cons _ (.cons _ (.cons _ (.refl _)))) | exact .cons_cons _ (List.nil_sublist _))⟩ ⟨0, (firstM l), rfl, rfl, Nat.zero_le _, rfl, (okM_first hln)⟩ ?_
 rintro nn0 _ ⟨k, m, rfl, rfl, hk, hap, hok⟩
 refine awp_seq ?_
 refine awp_region ?_
 refine r_cmp rfl rfl rfl rfl ?_
 refine awl_nil ?_
 refine x_then ?_
 refine awp_seq ?_
 refine awp_cond rfl (fun hc0 => ?_) (fun hc0 => ?_)
 ·
  have hltx : k < d.length := by have := of_decide_eq_true hc0; simpa using this
  obtain ⟨x, hx⟩ := get_lt hltx
  refine awp_skip ?_
  refine x_then ?_
  refine awp_seq ?_
  refine awp_block ?_
  refine awp_seq ?_
  refine awp_region ?_
  refine r_index rfl rfl rfl TF.sl28 TF.sz50 (by omega) (get_map hx) rfl ?_
  first | (refine r_loadA rfl TF.agg50 TF.sz50 rfl rfl ?_) | (refine r_loadAb 0 rfl rfl TF.agg50 TF.sz50 rfl rfl ?_)
  refine r_alloc TF.zero50 rfl (fun b8 => ?_)
  first | (refine r_store 0 rfl rfl rfl TF.sz50 rfl rfl rfl ?_) | (refine r_store 1 rfl rfl rfl TF.sz50 rfl rfl rfl ?_)
  refine awl_nil ?_
  refine x_then ?_
  refine awp_seq ?_
  refine awp_region ?_
  refine r_move rfl rfl ?_
  first | (refine r_loadAb 0 rfl rfl TF.agg50 TF.sz50 rfl rfl ?_) | (refine r_loadA rfl TF.agg50 TF.sz50 rfl rfl ?_) | (refine r_loadAb 1 rfl rfl TF.agg50 TF.sz50 rfl rfl ?_)
  refine r_callPC hq Cs hcs (wo := [⟨bm, true, .map (encM Value.string (hiB Cs) m)⟩]) (un := [⟨b8, true, .box (FC.cs x)⟩]) rfl rfl (.cons (.ev rfl rfl) (.cons (.ev rfl rfl) .nil)) (stepH_ok Cs m x (hdn x (List.mem_of_getElem? hx)).2.2) rfl TF.en34 (List.Perm.swap _ _ _) (List.nil_sublist _) rfl (fun r nobjs hr => ?_)
  obtain ⟨rfl, rfl⟩ := hr
  refine r_assign rfl rfl ?_
  refine awl_nil ?_
  refine x_then ?_
  refine awp_seq ?_
  refine awp_region ?_
  refine r_move rfl rfl ?_
  refine r_cmp rfl rfl rfl rfl ?_
  refine awl_nil ?_
  refine x_then ?_
  refine awp_cond rfl (fun hc1 => ?_) (fun hc1 => ?_)
  ·
   have hne : ¬ (stepM m x).1 = 0 := by simpa using hc1
   refine awp_seq ?_
   refine awp_region ?_
   refine r_move rfl rfl ?_
   refine r_assign rfl rfl ?_
   refine r_assign rfl rfl ?_
   refine awl_nil ?_
   refine x_then ?_
   refine awp_ret ?_
   refine x_blockR ?_
   refine x_thenR ?_
   refine x_thenR ?_
   refine x_blockR ?_
   refine x_thenR ?_
   exact ⟨(.inl rfl), _, [], (.two (by first | exact .mk rfl rfl | exact .nil rfl) (by first | exact .mk rfl rfl | exact .nil rfl)), (.inr ⟨(stepM m x).1, (stepM m x).2, applyM_fail hx hap hne, hne⟩), (List.nil_sublist _), (by simp)⟩
  ·
   have h0 : (stepM m x).1 = 0 := by simpa using hc1
   refine awp_skip ?_
   refine x_block ?_
   refine x_then ?_
   refine awp_region ?_
   refine r_ari _ rfl rfl rfl (wrap_id (by first | omega | (simp; omega))) rfl ?_
   refine r_move rfl rfl ?_
   refine awl_nil ?_
   refine x_then ?_
   refine ⟨d.length - (k + 1), ⟨45, [(6, .a (.v (.map (some bm)))), (15, .a (fcsA d)), (16, .a (.v (.int .i64 ((d.map FC.cs).length)))), (17, .a (.v (.int .i64 (((k + 1) : Int)))))], [⟨bm, true, .map (encM Value.string (hiB Cs) ((stepM m x).2))⟩]⟩, ⟨rfl, (Slots.cons rfl (by first | exact .refl _ | exact .nilOwn _ _ | exact .nilSl _ | exact .ownSl _ _ _  | exact SV.le.of_eq (by simp)) (Slots.cons rfl (by first | exact .refl _ | exact .nilOwn _ _ | exact .nilSl _ | exact .ownSl _ _ _  | exact SV.le.of_eq (by simp)) (Slots.cons rfl (by first | exact .refl _ | exact .nilOwn _ _ | exact .nilSl _ | exact .ownSl _ _ _  | exact SV.le.of_eq (by simp)) (Slots.cons rfl (by first | exact .refl _ | exact .nilOwn _ _ | exact .nilSl _ | exact .ownSl _ _ _  | exact SV.le.of_eq (by simp)) Slots.nil)))), (by first | exact List.Sublist.refl _ | exact .cons_cons _ (.cons _ (.refl _)) | exact List.nil_sublist _ | exact .cons _ (.refl _) | exact .cons _ (.cons _ (.refl _)) | exact .cons _ (.cons _ (.cons _ (.refl _))) | exact .cons _ (.cons _ (.cons _ (.cons _ (.refl _)))) | exact .cons_cons _ (List.nil_sublist _))⟩, (by omega), ⟨k + 1, (stepM m x).2, rfl, rfl, (by omega), (by rw [applyM_step hx hap, ← h0]), (okM_step hok (by have := (hdn x (List.mem_of_getElem? hx)).1; unfold maxLen; omega) (by have := (hdn x (List.mem_of_getElem? hx)).2.1; unfold maxLen; omega))⟩⟩
 ·
  have hge : d.length ≤ k := by have := of_decide_eq_false hc0; simp at this; omega
  obtain rfl : k = d.length := by omega
  have hap2 := applyM_end hge hap
  obtain ⟨ns, hns⟩ : ∃ ns, ns = sortB (m.map (·.1)) := ⟨_, rfl⟩
  have hnl : ns.length = m.length := by rw [hns, sortB_len, List.length_map]
  have hml := hok.len
  refine awp_exit ?_
  refine x_thenE ?_
  refine x_thenE ?_
  refine x_blockE ?_
  refine x_then ?_
  refine awp_seq ?_
  refine awp_region ?_
  refine r_assign rfl rfl ?_
  refine awl_nil ?_
  refine x_then ?_
  refine awp_seq ?_
  refine awp_seq ?_
  refine awp_region ?_
  refine r_move rfl rfl ?_
  refine r_callO hq rfl rfl (.cons (.ev rfl rfl) .nil) (orderH_ok Cs m hok.nd hok.sz (by omega)) rfl TF.en29 (.cons_cons _ (List.nil_sublist _)) rfl (fun r nobjs hr => ?_)
  obtain ⟨rfl, hr2⟩ := hr
  rw [← hns] at hr2
  obtain rfl := hr2
  first | (refine r_lenS rfl rfl TF.sl57 rfl ?_) | (refine r_lenNil rfl TF.sl57 rfl ?_) | (refine r_lenV rfl TF.sl57 rfl ?_)
  refine r_move rfl rfl ?_
  refine awl_nil ?_
  refine x_then ?_
  refine awp_block ?_
  refine awp_loop (fun nn0 S => ∃ k : Nat, S = ⟨45, [(6, .a (.v (.map (some bm)))), (10, .own 10 2 (((ns.take k).map (fun s : ByteArray => (⟨s, (mget m s).getD []⟩ : File))).map (File.csH Cs))), (29, .a (strsA ns)), (30, .a (.v (.int .i64 ((ns.map (fun s : ByteArray => [AV.v (.string s)])).length)))), (31, .a (.v (.int .i64 ((k : Int)))))], [⟨bm, true, .map (encM Value.string (hiB Cs) m)⟩]⟩ ∧ nn0 = ns.length - k ∧ (k ≤ ns.length)) (ns.length - (0)) ⟨45, [(6, .a (.v (.map (some bm)))), (10, .own 10 2 (((ns.take (0)).map (fun s : ByteArray => (⟨s, (mget m s).getD []⟩ : File))).map (File.csH Cs))), (29, .a (strsA ns)), (30, .a (.v (.int .i64 ((ns.map (fun s : ByteArray => [AV.v (.string s)])).length)))), (31, .a (.v (.int .i64 (((0) : Int)))))], [⟨bm, true, .map (encM Value.string (hiB Cs) m)⟩]⟩ ⟨rfl, (Slots.cons rfl (by first | exact .refl _ | exact .nilOwn _ _ | exact .nilSl _ | exact .ownSl _ _ _  | exact SV.le.of_eq (by simp)) (Slots.cons rfl (by first | exact .refl _ | exact .nilOwn _ _ | exact .nilSl _ | exact .ownSl _ _ _  | exact SV.le.of_eq (by simp)) (Slots.cons rfl (by first | exact .refl _ | exact .nilOwn _ _ | exact .nilSl _ | exact .ownSl _ _ _  | exact SV.le.of_eq (by simp)) (Slots.cons rfl (by first | exact .refl _ | exact .nilOwn _ _ | exact .nilSl _ | exact .ownSl _ _ _  | exact SV.le.of_eq (by simp)) (Slots.cons rfl (by first | exact .refl _ | exact .nilOwn _ _ | exact .nilSl _ | exact .ownSl _ _ _  | exact SV.le.of_eq (by simp)) Slots.nil))))), (by first | exact List.Sublist.refl _ | exact .cons_cons _ (.cons _ (.refl _)) | exact List.nil_sublist _ | exact .cons _ (.refl _) | exact .cons _ (.cons _ (.refl _)) | exact .cons _ (.cons _ (.cons _ (.refl _))) | exact .cons _ (.cons _ (.cons _ (.cons _ (.refl _)))) | exact .cons_cons _ (List.nil_sublist _))⟩ ⟨0, rfl, rfl, Nat.zero_le _⟩ ?_
  rintro nn0 _ ⟨k, rfl, rfl, hk1⟩
  refine awp_seq ?_
  refine awp_region ?_
  refine r_cmp rfl rfl rfl rfl ?_
  refine awl_nil ?_
  refine x_then ?_
  refine awp_seq ?_
  refine awp_cond rfl (fun hc2 => ?_) (fun hc2 => ?_)
  ·
   have hltx : k < ns.length := by have := of_decide_eq_true hc2; simpa using this
   obtain ⟨x, hx⟩ := get_lt hltx
   refine awp_skip ?_
   refine x_then ?_
   refine awp_seq ?_
   refine awp_block ?_
   refine awp_seq ?_
   refine awp_region ?_
   refine r_index rfl rfl rfl TF.sl57 TF.sz9 (by omega) (get_map hx) rfl ?_
   first | (refine r_load1b 0 rfl rfl rfl TF.agg9 rfl ?_) | (refine r_load1 rfl TF.agg9 rfl ?_)
   refine r_assign rfl rfl ?_
   refine awl_nil ?_
   refine x_then ?_
   refine awp_region ?_
   refine r_move rfl rfl ?_
   refine r_move rfl rfl ?_
   refine r_move rfl rfl ?_
   refine r_move rfl rfl ?_
   refine r_lookup 0 (keyEnc_string TF.un9) (ev := (hiB Cs)) [] rfl rfl rfl TF.map55 (TF.zavH Cs) rfl ?_
   refine r_build (parts := [(0, .tmp 36), (1, .tmp 39)]) rfl TF.pl48 TF.zero48 rfl rfl rfl ?_
   refine r_lit 41 (parts := [(0, .tmp 40)]) rfl TF.sl25 TF.sz48 TF.zraw48 rfl rfl rfl rfl rfl rfl rfl ?_
   refine r_append 10 rfl (by first | exact .own _ | exact .nil) rfl (by first | exact .sl _ | exact .own _ _ | exact .nil) TF.sl25 TF.sz48 (by decide) TF.by48 TF.zlen48 (by simp [chunks] <;> omega) (by simp [chunks] <;> omega) rfl ?_
   refine r_assign rfl rfl ?_
   refine awl_nil ?_
   refine x_block ?_
   refine x_then ?_
   refine awp_region ?_
   refine r_ari _ rfl rfl rfl (wrap_id (by first | omega | (simp; omega))) rfl ?_
   refine r_move rfl rfl ?_
   refine awl_nil ?_
   refine x_then ?_
   refine ⟨ns.length - (k + 1), ⟨45, [(6, .a (.v (.map (some bm)))), (10, .own 10 2 (((ns.take (k + 1)).map (fun s : ByteArray => (⟨s, (mget m s).getD []⟩ : File))).map (File.csH Cs))), (29, .a (strsA ns)), (30, .a (.v (.int .i64 ((ns.map (fun s : ByteArray => [AV.v (.string s)])).length)))), (31, .a (.v (.int .i64 (((k + 1) : Int)))))], [⟨bm, true, .map (encM Value.string (hiB Cs) m)⟩]⟩, ⟨rfl, (Slots.cons rfl (by first | exact .refl _ | exact .nilOwn _ _ | exact .nilSl _ | exact .ownSl _ _ _  | exact SV.le.ownEq (by first | rfl | (rw [map_take hx, List.map_append]; rfl)) | exact SV.le.of_eq (by first | rfl | (rw [map_take hx, List.map_append]; rfl))) (Slots.cons rfl (by first | exact .refl _ | exact .nilOwn _ _ | exact .nilSl _ | exact .ownSl _ _ _  | exact SV.le.ownEq (by first | rfl | (rw [map_take hx, List.map_append]; rfl)) | exact SV.le.of_eq (by first | rfl | (rw [map_take hx, List.map_append]; rfl))) (Slots.cons rfl (by first | exact .refl _ | exact .nilOwn _ _ | exact .nilSl _ | exact .ownSl _ _ _  | exact SV.le.ownEq (by first | rfl | (rw [map_take hx, List.map_append]; rfl)) | exact SV.le.of_eq (by first | rfl | (rw [map_take hx, List.map_append]; rfl))) (Slots.cons rfl (by first | exact .refl _ | exact .nilOwn _ _ | exact .nilSl _ | exact .ownSl _ _ _  | exact SV.le.ownEq (by first | rfl | (rw [map_take hx, List.map_append]; rfl)) | exact SV.le.of_eq (by first | rfl | (rw [map_take hx, List.map_append]; rfl))) (Slots.cons rfl (by first | exact .refl _ | exact .nilOwn _ _ | exact .nilSl _ | exact .ownSl _ _ _  | exact SV.le.ownEq (by first | rfl | (rw [map_take hx, List.map_append]; rfl)) | exact SV.le.of_eq (by first | rfl | (rw [map_take hx, List.map_append]; rfl))) Slots.nil))))), (by first | exact List.Sublist.refl _ | exact .cons_cons _ (.cons _ (.refl _)) | exact List.nil_sublist _ | exact .cons _ (.refl _) | exact .cons _ (.cons _ (.refl _)) | exact .cons _ (.cons _ (.cons _ (.refl _))) | exact .cons _ (.cons _ (.cons _ (.cons _ (.refl _)))) | exact .cons_cons _ (List.nil_sublist _))⟩, (by omega), ⟨k + 1, rfl, rfl, (by omega)⟩⟩
  ·
   have hge : ns.length ≤ k := by have := of_decide_eq_false hc2; simp at this; omega
   have hkl : (ns.take k).map (fun s : ByteArray => (⟨s, (mget m s).getD []⟩ : File)) = filesM m := by rw [List.take_of_length_le hge, hns]; rfl
   refine awp_exit ?_
   refine x_thenE ?_
   refine x_thenE ?_
   refine x_blockE ?_
   refine x_then ?_
   refine awp_seq ?_
   refine awp_region ?_
   rw [hkl]
   refine r_move rfl rfl ?_
   refine awl_ownbufH 44 rfl (flat_file Cs _) rfl (fun h0 => ?_) (fun gb gc ge => ?_)
   ·
    refine r_assign rfl rfl ?_
    refine r_assign rfl rfl ?_
    refine awl_nil ?_
    refine x_then ?_
    refine awp_ret ?_
    exact ⟨(.inl rfl), _, [], (.two (by first | exact .mk rfl rfl | exact .nil rfl) (by first | exact .mk rfl rfl | exact .nil rfl)), (.inl ⟨m, _, hap2, rfl, .inl ⟨h0, rfl, rfl⟩⟩), (List.nil_sublist _), (by simp)⟩
   ·
    refine r_assign rfl rfl ?_
    refine r_assign rfl rfl ?_
    refine awl_nil ?_
    refine x_then ?_
    refine awp_ret ?_
    exact ⟨(.inl rfl), _, [⟨gb, true, .buf 2 ((filesM m).map (File.csH Cs)) gc ge⟩], (.two (by first | exact .mk rfl rfl | exact .nil rfl) (by first | exact .mk rfl rfl | exact .nil rfl)), (.inl ⟨m, _, hap2, rfl, .inr ⟨gb, gc, ge, rfl, rfl⟩⟩), (by first | exact List.Sublist.refl _ | exact .cons_cons _ (.cons _ (.refl _)) | exact List.nil_sublist _ | exact .cons _ (.refl _) | exact .cons _ (.cons _ (.refl _)) | exact .cons _ (.cons _ (.cons _ (.refl _))) | exact .cons _ (.cons _ (.cons _ (.cons _ (.refl _)))) | exact .cons_cons _ (List.nil_sublist _)), (by simp)⟩
theorem applyOfH_ok (Cs : CS) (a b : List File) (hla : a.length ≤ 1000) (hlb : b.length ≤ 1000) (hna : ∀ f ∈ a, f.name.size ≤ 1000000) (hnb : ∀ f ∈ b, f.name.size ≤ 1000000) (hda : ∀ f ∈ a, f.data.length ≤ 1000000) (hdb : ∀ f ∈ b, f.data.length ≤ 1000000) : AWC Cs Try.prog 16 [files a, fcsA (OfF a b)] [] [] (fun r n => ∃ r0, r = .tup [r0, .v (.int .i64 0)] ∧ GrowB 2 ((cleanS b).map (File.csH Cs)) r0 n) := by
  have hl := of_len a b
  intro C w vals g0 g1 g2 g3
  refine (applyH_ok Cs a (OfF a b) hla (by omega) hna hda (of_bound hna hnb hdb) C w vals g0 g1 g2 g3).mono ?_
  rintro e w' ⟨v, C', r, n, h1, h, h3⟩
  refine ⟨v, C', r, n, h1, ?_, h3⟩
  obtain ⟨m, k1, k2, k3, k4⟩ := apply_clean a b
  obtain ⟨m', r0, j1, rfl, j2⟩ | ⟨e, m', j1, j2⟩ := h
  · rw [k1] at j1; cases j1; rw [k4] at j2; exact ⟨r0, rfl, j2⟩
  · rw [k1] at j1; cases j1; exact absurd rfl j2
set_option maxHeartbeats 2000000 in
theorem ofH_ok (Cs : CS) (a b : List File) (hla : a.length ≤ 1000) (hlb : b.length ≤ 1000) (hnsa : ∀ f ∈ a, f.name.size ≤ 1000000) (hnsb : ∀ f ∈ b, f.name.size ≤ 1000000) (hdA : ∀ f ∈ a, f.data.length ≤ 1000000) (hdb : ∀ f ∈ b, f.data.length ≤ 1000000) : AWC Cs Try.prog 13 [files a, files b] [] [] (GrowB 4 ((OfF a b).map (FC.csH Cs))) := by
 refine awc_of_awpG Cs (so := []) (nt := 111) (fun S r => Result1 S [4] r) Try.func13 rfl rfl rfl rfl (result1_run rfl) (fun w0 C0 hq hcs => ?_)
 refine awp_seq ?_
 refine awp_region ?_
 refine r_assign rfl rfl ?_
 refine awl_nil ?_
 refine x_then ?_
 refine awp_seq ?_
 refine awp_region ?_
 refine r_move rfl rfl ?_
 refine r_callO hq rfl rfl (.cons (.ev rfl rfl) .nil) (named_ok a (by omega) hdA) rfl TF.en23 (List.nil_sublist _) rfl (fun r nobjs hr => ?_)
 obtain ⟨bx, mx, rfl, rfl, htx⟩ := hr
 refine r_move rfl rfl ?_
 refine r_callO hq rfl rfl (.cons (.ev rfl rfl) .nil) (named_ok b (by omega) hdb) rfl TF.en23 (List.nil_sublist _) rfl (fun r nobjs hr => ?_)
 obtain ⟨by_, my, rfl, rfl, hty⟩ := hr
 refine r_alloc TF.zero55 rfl (fun b5 => ?_)
 refine r_alloc TF.zero55 rfl (fun b6 => ?_)
 first | (refine r_store 0 rfl rfl rfl TF.sz55 rfl rfl rfl ?_) | (refine r_store 1 rfl rfl rfl TF.sz55 rfl rfl rfl ?_) | (refine r_store 2 rfl rfl rfl TF.sz55 rfl rfl rfl ?_) | (refine r_store 3 rfl rfl rfl TF.sz55 rfl rfl rfl ?_)
 first | (refine r_store 0 rfl rfl rfl TF.sz55 rfl rfl rfl ?_) | (refine r_store 1 rfl rfl rfl TF.sz55 rfl rfl rfl ?_) | (refine r_store 2 rfl rfl rfl TF.sz55 rfl rfl rfl ?_) | (refine r_store 3 rfl rfl rfl TF.sz55 rfl rfl rfl ?_)
 refine awl_nil ?_
 refine x_then ?_
 refine awp_seq ?_
 refine awp_imp (imp_commit 0 6 rfl rfl rfl rfl) ?_
 refine awp_imp (imp_commit 0 5 rfl rfl rfl rfl) ?_
 refine awp_imp (imp_perm (List.Perm.swap _ _ _)) ?_
 have hwl := went_len a b
 have hnl := names_len a
 refine awp_drawS [24, 25, 26, 27, 28] [_, _, _, _, _] [] [] TF.mixed rfl rfl rfl ⟨⟨⟨⟨⟨trivial
  , ⟨_, rfl, fun sl hd hr ho => by
    first | (refine r_load1 (hr 5 _ rfl rfl rfl) TF.agg55 rfl ?_) | (refine r_load1b 0 (hr 5 _ rfl rfl rfl) rfl rfl TF.agg55 rfl ?_) | (refine r_load1b 1 (hr 5 _ rfl rfl rfl) rfl rfl TF.agg55 rfl ?_) | (refine r_load1b 2 (hr 5 _ rfl rfl rfl) rfl rfl TF.agg55 rfl ?_) | (refine r_load1b 3 (hr 5 _ rfl rfl rfl) rfl rfl TF.agg55 rfl ?_)
    exact awl_nil ⟨rfl, post_put⟩⟩⟩
  , ⟨_, rfl, fun sl hd hr ho => by
    first | (refine r_load1 (hr 6 _ rfl rfl rfl) TF.agg55 rfl ?_) | (refine r_load1b 0 (hr 6 _ rfl rfl rfl) rfl rfl TF.agg55 rfl ?_) | (refine r_load1b 1 (hr 6 _ rfl rfl rfl) rfl rfl TF.agg55 rfl ?_) | (refine r_load1b 2 (hr 6 _ rfl rfl rfl) rfl rfl TF.agg55 rfl ?_) | (refine r_load1b 3 (hr 6 _ rfl rfl rfl) rfl rfl TF.agg55 rfl ?_)
    exact awl_nil ⟨rfl, post_put⟩⟩⟩
  , ⟨_, rfl, fun sl hd hr ho => by
    refine r_callO hq rfl rfl (.cons (.ev (hd 0 _ rfl rfl rfl) rfl) (.cons (.ev (hd 1 _ rfl rfl rfl) rfl) .nil)) (withoutW_ok htx hty hnsa (by omega)) rfl TF.en24 (List.Sublist.refl _) rfl (fun r nobjs hr => ?_)
    obtain ⟨rfl, rfl⟩ := hr
    exact awl_nil ⟨rfl, post_put⟩⟩⟩
  , ⟨_, rfl, fun sl hd hr ho => by
    first | (refine r_load1 (hr 6 _ rfl rfl rfl) TF.agg55 rfl ?_) | (refine r_load1b 0 (hr 6 _ rfl rfl rfl) rfl rfl TF.agg55 rfl ?_) | (refine r_load1b 1 (hr 6 _ rfl rfl rfl) rfl rfl TF.agg55 rfl ?_) | (refine r_load1b 2 (hr 6 _ rfl rfl rfl) rfl rfl TF.agg55 rfl ?_) | (refine r_load1b 3 (hr 6 _ rfl rfl rfl) rfl rfl TF.agg55 rfl ?_)
    exact awl_nil ⟨rfl, post_put⟩⟩⟩
  , ⟨_, rfl, fun sl hd hr ho => by
    first | (refine r_load1 (hr 5 _ rfl rfl rfl) TF.agg55 rfl ?_) | (refine r_load1b 0 (hr 5 _ rfl rfl rfl) rfl rfl TF.agg55 rfl ?_) | (refine r_load1b 1 (hr 5 _ rfl rfl rfl) rfl rfl TF.agg55 rfl ?_) | (refine r_load1b 2 (hr 5 _ rfl rfl rfl) rfl rfl TF.agg55 rfl ?_) | (refine r_load1b 3 (hr 5 _ rfl rfl rfl) rfl rfl TF.agg55 rfl ?_)
    exact awl_nil ⟨rfl, post_put⟩⟩⟩
  (by rfl) ?_
 refine r_callO hq rfl rfl (.cons (.ev rfl rfl) (.cons (.ev rfl rfl) .nil)) ((withoutX_ok hty htx hnsb (by omega)).swap) rfl TF.en24 (List.Sublist.refl _) rfl (fun r nobjs hr => ?_)
 rcases hr with ⟨h0, rfl, rfl⟩ | ⟨g2, cap, ext, hcap, rfl, rfl⟩
 ·
  refine r_assign rfl rfl ?_
  refine r_assign rfl rfl ?_
  refine awl_nil ?_
  refine x_then ?_
  refine awp_seq ?_
  refine awp_region ?_
  refine r_assign rfl rfl ?_
  refine r_assign rfl rfl ?_
  refine awl_nil ?_
  refine x_then ?_
  refine awp_seq ?_
  refine awp_seq ?_
  refine awp_region ?_
  refine r_move rfl rfl ?_
  first | (refine r_lenS rfl rfl TF.sl57 rfl ?_) | (refine r_lenNil rfl TF.sl57 rfl ?_) | (refine r_lenV rfl TF.sl57 rfl ?_)
  refine r_move rfl rfl ?_
  refine awl_nil ?_
  refine x_then ?_
  refine awp_block ?_
  refine awp_loop (fun nn0 S => ∃ k : Nat, ∃ gone : List FC, S = ⟨111, [(5, .a (.cp [.v (.map (some bx))])), (6, .a (.cp [.v (.map (some by_))])), (8, .a (.v (.slice none 0 0))), (9, .own 9 4 (([] : List FC).map (FC.csH Cs))), (10, .own 10 4 (gone.map (FC.csH Cs))), (30, .a (strsA (wentF a b))), (31, .a (.v (.int .i64 (((wentF a b).map (fun s : ByteArray => [AV.v (.string s)])).length)))), (32, .a (.v (.int .i64 ((k : Int)))))], [⟨bx, true, .map (encM Value.string bts mx)⟩, ⟨by_, true, .map (encM Value.string bts my)⟩]⟩ ∧ nn0 = (wentF a b).length - k ∧ (k ≤ (wentF a b).length) ∧ (splitF a b k = (([] : List ByteArray), ([] : List FC), gone)) ∧ (gone.length ≤ k)) ((wentF a b).length - (0)) ⟨111, [(5, .a (.cp [.v (.map (some bx))])), (6, .a (.cp [.v (.map (some by_))])), (8, .a (.v (.slice none 0 0))), (9, .own 9 4 (([] : List FC).map (FC.csH Cs))), (10, .own 10 4 (([]).map (FC.csH Cs))), (30, .a (strsA (wentF a b))), (31, .a (.v (.int .i64 (((wentF a b).map (fun s : ByteArray => [AV.v (.string s)])).length)))), (32, .a (.v (.int .i64 (((0) : Int)))))], [⟨bx, true, .map (encM Value.string bts mx)⟩, ⟨by_, true, .map (encM Value.string bts my)⟩]⟩ ⟨rfl, (Slots.cons rfl (by first | exact .refl _ | exact .nilOwn _ _ | exact .nilSl _ | exact .ownSl _ _ _  | exact SV.le.of_eq (by simp)) (Slots.cons rfl (by first | exact .refl _ | exact .nilOwn _ _ | exact .nilSl _ | exact .ownSl _ _ _  | exact SV.le.of_eq (by simp)) (Slots.cons rfl (by first | exact .refl _ | exact .nilOwn _ _ | exact .nilSl _ | exact .ownSl _ _ _  | exact SV.le.of_eq (by simp)) (Slots.cons rfl (by first | exact .refl _ | exact .nilOwn _ _ | exact .nilSl _ | exact .ownSl _ _ _  | exact SV.le.of_eq (by simp)) (Slots.cons rfl (by first | exact .refl _ | exact .nilOwn _ _ | exact .nilSl _ | exact .ownSl _ _ _  | exact SV.le.of_eq (by simp)) (Slots.cons rfl (by first | exact .refl _ | exact .nilOwn _ _ | exact .nilSl _ | exact .ownSl _ _ _  | exact SV.le.of_eq (by simp)) (Slots.cons rfl (by first | exact .refl _ | exact .nilOwn _ _ | exact .nilSl _ | exact .ownSl _ _ _  | exact SV.le.of_eq (by simp)) (Slots.cons rfl (by first | exact .refl _ | exact .nilOwn _ _ | exact .nilSl _ | exact .ownSl _ _ _  | exact SV.le.of_eq (by simp)) Slots.nil)))))))), (by first | exact List.Sublist.refl _ | exact .cons_cons _ (.cons _ (.refl _)) | exact List.nil_sublist _ | exact .cons _ (.refl _) | exact .cons _ (.cons _ (.refl _)) | exact .cons _ (.cons _ (.cons _ (.refl _))) | exact .cons _ (.cons _ (.cons _ (.cons _ (.refl _)))) | exact .cons_cons _ (List.nil_sublist _))⟩ ⟨0, [], rfl, rfl, Nat.zero_le _, (by rw [splitF, h0]; rfl), (by simp)⟩ ?_
  rintro nn0 _ ⟨k, gone, rfl, rfl, hk, hst, hgl⟩
  refine awp_seq ?_
  refine awp_region ?_
  refine r_cmp rfl rfl rfl rfl ?_
  refine awl_nil ?_
  refine x_then ?_
  refine awp_seq ?_
  refine awp_cond rfl (fun hc0 => ?_) (fun hc0 => ?_)
  ·
   have hltx : k < (wentF a b).length := by have := of_decide_eq_true hc0; simpa using this
   obtain ⟨x, hx⟩ := get_lt hltx
   refine awp_skip ?_
   refine x_then ?_
   refine awp_seq ?_
   refine awp_block ?_
   refine awp_seq ?_
   refine awp_region ?_
   refine r_index rfl rfl rfl TF.sl57 TF.sz9 (by omega) (get_map hx) rfl ?_
   first | (refine r_load1 rfl TF.agg9 rfl ?_) | (refine r_load1b 0 rfl rfl rfl TF.agg9 rfl ?_) | (refine r_load1b 1 rfl rfl rfl TF.agg9 rfl ?_)
   refine r_alloc TF.zero9 rfl (fun b12 => ?_)
   first | (refine r_store 0 rfl rfl rfl TF.sz9 rfl rfl rfl ?_) | (refine r_store 1 rfl rfl rfl TF.sz9 rfl rfl rfl ?_) | (refine r_store 2 rfl rfl rfl TF.sz9 rfl rfl rfl ?_)
   refine awl_nil ?_
   refine x_then ?_
   refine awp_seq ?_
   refine awp_region ?_
   refine awl_imp (imp_commit 0 12 rfl rfl rfl rfl) ?_
   refine r_move rfl rfl ?_
   refine r_makeFunc rfl (.cons (.ev rfl rfl) (.cons (.ev rfl rfl) (.cons (.ev rfl rfl) .nil))) rfl ?_
   refine r_call0 hq rfl rfl (.cons (.ev rfl rfl) (.cons (.ev rfl rfl) .nil)) (idxN_ok) rfl TF.en25 rfl (fun r hr => ?_)
   obtain rfl := hr
   refine r_assign rfl rfl ?_
   refine awl_nil ?_
   refine x_then ?_
   refine awp_seq ?_
   refine awp_seq ?_
   refine awp_region ?_
   refine r_move rfl rfl ?_
   refine r_cmp rfl rfl rfl rfl ?_
   refine awl_nil ?_
   refine x_then ?_
   refine awp_cond rfl (fun hc1 => ?_) (fun hc1 => ?_)
   ·
    refine awp_seq ?_
    refine awp_region ?_
    refine r_move rfl rfl ?_
    first | (refine r_load1 rfl TF.agg9 rfl ?_) | (refine r_load1b 0 rfl rfl rfl TF.agg9 rfl ?_) | (refine r_load1b 1 rfl rfl rfl TF.agg9 rfl ?_) | (refine r_load1b 2 rfl rfl rfl TF.agg9 rfl ?_)
    refine r_build (parts := [(0, .const ((Go.Value.int Go.IntKind.i64 2))), (1, .tmp 42)]) rfl TF.pl50 (TF.zeroHC Cs) rfl rfl rfl ?_
    refine r_lit 44 (parts := [(0, .tmp 43)]) rfl TF.sl28 TF.sz50 TF.zraw50 rfl rfl rfl rfl rfl rfl rfl ?_
    refine r_append 10 rfl (by first | exact .own _ | exact .nil) rfl (by first | exact .sl _ | exact .own _ _ | exact .nil) TF.sl28 TF.sz50 (by decide) TF.by50 TF.zlen50 (by simp [chunks] <;> omega) (by simp [chunks] <;> omega) rfl ?_
    refine r_assign rfl rfl ?_
    refine awl_nil ?_
    refine x_then ?_
    refine awp_exit ?_
    refine x_thenE ?_
    refine x_blockE ?_
    refine x_then ?_
    refine awp_region ?_
    refine r_ari _ rfl rfl rfl (wrap_id (by first | omega | (simp; omega))) rfl ?_
    refine r_move rfl rfl ?_
    refine awl_nil ?_
    refine x_then ?_
    refine ⟨(wentF a b).length - (k + 1), ⟨111, [(5, .a (.cp [.v (.map (some bx))])), (6, .a (.cp [.v (.map (some by_))])), (8, .a (.v (.slice none 0 0))), (9, .own 9 4 (([] : List FC).map (FC.csH Cs))), (10, .own 10 4 ((gone ++ [(⟨2, x, E0, []⟩ : FC)]).map (FC.csH Cs))), (30, .a (strsA (wentF a b))), (31, .a (.v (.int .i64 (((wentF a b).map (fun s : ByteArray => [AV.v (.string s)])).length)))), (32, .a (.v (.int .i64 (((k + 1) : Int)))))], [⟨bx, true, .map (encM Value.string bts mx)⟩, ⟨by_, true, .map (encM Value.string bts my)⟩]⟩, ⟨rfl, (Slots.cons rfl (by first | exact .refl _ | exact .nilOwn _ _ | exact .nilSl _ | exact .ownSl _ _ _  | exact SV.le.ownEq (by first | rfl | (rw [List.map_append]; rfl) | (simp [List.map_append]; done)) | exact SV.le.of_eq (by first | rfl | (rw [List.map_append]; rfl) | (simp [List.map_append]; done))) (Slots.cons rfl (by first | exact .refl _ | exact .nilOwn _ _ | exact .nilSl _ | exact .ownSl _ _ _  | exact SV.le.ownEq (by first | rfl | (rw [List.map_append]; rfl) | (simp [List.map_append]; done)) | exact SV.le.of_eq (by first | rfl | (rw [List.map_append]; rfl) | (simp [List.map_append]; done))) (Slots.cons rfl (by first | exact .refl _ | exact .nilOwn _ _ | exact .nilSl _ | exact .ownSl _ _ _  | exact SV.le.ownEq (by first | rfl | (rw [List.map_append]; rfl) | (simp [List.map_append]; done)) | exact SV.le.of_eq (by first | rfl | (rw [List.map_append]; rfl) | (simp [List.map_append]; done))) (Slots.cons rfl (by first | exact .refl _ | exact .nilOwn _ _ | exact .nilSl _ | exact .ownSl _ _ _  | exact SV.le.ownEq (by first | rfl | (rw [List.map_append]; rfl) | (simp [List.map_append]; done)) | exact SV.le.of_eq (by first | rfl | (rw [List.map_append]; rfl) | (simp [List.map_append]; done))) (Slots.cons rfl (by first | exact .refl _ | exact .nilOwn _ _ | exact .nilSl _ | exact .ownSl _ _ _  | exact SV.le.ownEq (by first | rfl | (rw [List.map_append]; rfl) | (simp [List.map_append]; done)) | exact SV.le.of_eq (by first | rfl | (rw [List.map_append]; rfl) | (simp [List.map_append]; done))) (Slots.cons rfl (by first | exact .refl _ | exact .nilOwn _ _ | exact .nilSl _ | exact .ownSl _ _ _  | exact SV.le.ownEq (by first | rfl | (rw [List.map_append]; rfl) | (simp [List.map_append]; done)) | exact SV.le.of_eq (by first | rfl | (rw [List.map_append]; rfl) | (simp [List.map_append]; done))) (Slots.cons rfl (by first | exact .refl _ | exact .nilOwn _ _ | exact .nilSl _ | exact .ownSl _ _ _  | exact SV.le.ownEq (by first | rfl | (rw [List.map_append]; rfl) | (simp [List.map_append]; done)) | exact SV.le.of_eq (by first | rfl | (rw [List.map_append]; rfl) | (simp [List.map_append]; done))) (Slots.cons rfl (by first | exact .refl _ | exact .nilOwn _ _ | exact .nilSl _ | exact .ownSl _ _ _  | exact SV.le.ownEq (by first | rfl | (rw [List.map_append]; rfl) | (simp [List.map_append]; done)) | exact SV.le.of_eq (by first | rfl | (rw [List.map_append]; rfl) | (simp [List.map_append]; done))) Slots.nil)))))))), (by first | exact List.Sublist.refl _ | exact .cons_cons _ (.cons _ (.refl _)) | exact List.nil_sublist _ | exact .cons _ (.refl _) | exact .cons _ (.cons _ (.refl _)) | exact .cons _ (.cons _ (.cons _ (.refl _))) | exact .cons _ (.cons _ (.cons _ (.cons _ (.refl _)))) | exact .cons_cons _ (List.nil_sublist _))⟩, (by omega), ⟨k + 1, gone ++ [(⟨2, x, E0, []⟩ : FC)], rfl, rfl, (by omega), (split_none hx hst rfl), (by simp; omega)⟩⟩
   ·
    exfalso; exact absurd hc1 (by decide)
  ·
   have hge : (wentF a b).length ≤ k := by have := of_decide_eq_false hc0; simp at this; omega
   obtain rfl : k = (wentF a b).length := by omega
   refine awp_exit ?_
   refine x_thenE ?_
   refine x_thenE ?_
   refine x_blockE ?_
   refine x_then ?_
   refine awp_seq ?_
   refine awp_region ?_
   refine r_move rfl rfl ?_
   refine r_move rfl rfl ?_
   refine r_append 9 rfl (by first | exact .own _ | exact .nil) rfl (by first | exact .sl _ | exact .own _ _ | exact .nil) TF.sl28 TF.sz50 (by decide) TF.by50 TF.zlen50 (by simp [chunks] <;> omega) (by simp [chunks] <;> omega) rfl ?_
   refine r_assign rfl rfl ?_
   refine awl_nil ?_
   refine x_then ?_
   refine awp_seq ?_
   refine awp_seq ?_
   refine awp_region ?_
   first | (refine r_load1 rfl TF.agg55 rfl ?_) | (refine r_load1b 0 rfl rfl rfl TF.agg55 rfl ?_) | (refine r_load1b 1 rfl rfl rfl TF.agg55 rfl ?_)
   refine r_callO hq rfl rfl (.cons (.ev rfl rfl) .nil) (orderN_ok htx hnsa (by omega)) rfl TF.en29 (.cons_cons _ (List.nil_sublist _)) rfl (fun r nobjs hr => ?_)
   obtain ⟨rfl, rfl⟩ := hr
   first | (refine r_lenS rfl rfl TF.sl57 rfl ?_) | (refine r_lenNil rfl TF.sl57 rfl ?_) | (refine r_lenV rfl TF.sl57 rfl ?_)
   refine r_move rfl rfl ?_
   refine awl_nil ?_
   refine x_then ?_
   refine awp_block ?_
   refine awp_loop (fun nn0 S => ∃ k : Nat, S = ⟨111, [(5, .a (.cp [.v (.map (some bx))])), (6, .a (.cp [.v (.map (some by_))])), (8, .a (.v (.slice none 0 0))), (9, .own 9 4 ((gone ++ ((namesF a).take k).filterMap (chgF a b)).map (FC.csH Cs))), (65, .a (strsA (namesF a))), (66, .a (.v (.int .i64 (((namesF a).map (fun s : ByteArray => [AV.v (.string s)])).length)))), (67, .a (.v (.int .i64 ((k : Int)))))], [⟨bx, true, .map (encM Value.string bts mx)⟩, ⟨by_, true, .map (encM Value.string bts my)⟩]⟩ ∧ nn0 = (namesF a).length - k ∧ (k ≤ (namesF a).length)) ((namesF a).length - (0)) ⟨111, [(5, .a (.cp [.v (.map (some bx))])), (6, .a (.cp [.v (.map (some by_))])), (8, .a (.v (.slice none 0 0))), (9, .own 9 4 ((gone ++ ((namesF a).take (0)).filterMap (chgF a b)).map (FC.csH Cs))), (65, .a (strsA (namesF a))), (66, .a (.v (.int .i64 (((namesF a).map (fun s : ByteArray => [AV.v (.string s)])).length)))), (67, .a (.v (.int .i64 (((0) : Int)))))], [⟨bx, true, .map (encM Value.string bts mx)⟩, ⟨by_, true, .map (encM Value.string bts my)⟩]⟩ ⟨rfl, (Slots.cons rfl (by first | exact .refl _ | exact .nilOwn _ _ | exact .nilSl _ | exact .ownSl _ _ _  | exact SV.le.ownEq (by simp [chunks]) | exact SV.le.of_eq (by simp [chunks])) (Slots.cons rfl (by first | exact .refl _ | exact .nilOwn _ _ | exact .nilSl _ | exact .ownSl _ _ _  | exact SV.le.ownEq (by simp [chunks]) | exact SV.le.of_eq (by simp [chunks])) (Slots.cons rfl (by first | exact .refl _ | exact .nilOwn _ _ | exact .nilSl _ | exact .ownSl _ _ _  | exact SV.le.ownEq (by simp [chunks]) | exact SV.le.of_eq (by simp [chunks])) (Slots.cons rfl (by first | exact .refl _ | exact .nilOwn _ _ | exact .nilSl _ | exact .ownSl _ _ _  | exact SV.le.ownEq (by simp [chunks]) | exact SV.le.of_eq (by simp [chunks])) (Slots.cons rfl (by first | exact .refl _ | exact .nilOwn _ _ | exact .nilSl _ | exact .ownSl _ _ _  | exact SV.le.ownEq (by simp [chunks]) | exact SV.le.of_eq (by simp [chunks])) (Slots.cons rfl (by first | exact .refl _ | exact .nilOwn _ _ | exact .nilSl _ | exact .ownSl _ _ _  | exact SV.le.ownEq (by simp [chunks]) | exact SV.le.of_eq (by simp [chunks])) (Slots.cons rfl (by first | exact .refl _ | exact .nilOwn _ _ | exact .nilSl _ | exact .ownSl _ _ _  | exact SV.le.ownEq (by simp [chunks]) | exact SV.le.of_eq (by simp [chunks])) Slots.nil))))))), (by first | exact List.Sublist.refl _ | exact .cons_cons _ (.cons _ (.refl _)) | exact List.nil_sublist _ | exact .cons _ (.refl _) | exact .cons _ (.cons _ (.refl _)) | exact .cons _ (.cons _ (.cons _ (.refl _))) | exact .cons _ (.cons _ (.cons _ (.cons _ (.refl _)))) | exact .cons_cons _ (List.nil_sublist _))⟩ ⟨0, rfl, rfl, Nat.zero_le _⟩ ?_
   rintro nn0 _ ⟨k, rfl, rfl, hk1⟩
   refine awp_seq ?_
   refine awp_region ?_
   refine r_cmp rfl rfl rfl rfl ?_
   refine awl_nil ?_
   refine x_then ?_
   refine awp_seq ?_
   refine awp_cond rfl (fun hc2 => ?_) (fun hc2 => ?_)
   ·
    have hltx : k < (namesF a).length := by have := of_decide_eq_true hc2; simpa using this
    obtain ⟨x, hx⟩ := get_lt hltx
    have hf1 : (((namesF a).take k).filterMap (chgF a b)).length ≤ k := Nat.le_trans (List.length_filterMap_le _ _) (by simp; omega)
    refine awp_skip ?_
    refine x_then ?_
    refine awp_seq ?_
    refine awp_block ?_
    refine awp_seq ?_
    refine awp_region ?_
    refine r_index rfl rfl rfl TF.sl57 TF.sz9 (by omega) (get_map hx) rfl ?_
    first | (refine r_load1 rfl TF.agg9 rfl ?_) | (refine r_load1b 0 rfl rfl rfl TF.agg9 rfl ?_) | (refine r_load1b 1 rfl rfl rfl TF.agg9 rfl ?_)
    refine r_assign rfl rfl ?_
    refine awl_nil ?_
    refine x_then ?_
    refine awp_seq ?_
    refine awp_region ?_
    first | (refine r_load1 rfl TF.agg55 rfl ?_) | (refine r_load1b 0 rfl rfl rfl TF.agg55 rfl ?_) | (refine r_load1b 1 rfl rfl rfl TF.agg55 rfl ?_)
    refine r_move rfl rfl ?_
    first | (refine r_lookupOk 0 (keyEnc_string TF.un9) (ev := bts) [] rfl rfl rfl TF.map55 TF.zavS rfl ?_) | (refine r_lookupOk 1 (keyEnc_string TF.un9) (ev := bts) [] rfl rfl rfl TF.map55 TF.zavS rfl ?_)
    refine r_move rfl rfl ?_
    refine r_extract rfl rfl rfl ?_
    refine r_extract rfl rfl rfl ?_
    refine r_assign rfl rfl ?_
    refine r_assign rfl rfl ?_
    refine awl_nil ?_
    refine x_then ?_
    refine awp_seq ?_
    refine awp_region ?_
    refine r_move rfl rfl ?_
    refine r_move rfl rfl ?_
    refine g_cases (t' := 78) rfl (fun hg78 => ?_) (fun hg78 => ?_)
    ·
     obtain ⟨d, hdq⟩ : ∃ d, mget my x = some d := Option.isSome_iff_exists.1 hg78
     have hq2 : lookF b x = some d := by rw [← hty.get, hdq]
     refine g_run rfl rfl hg78 ?_
     first | (refine r_load1 rfl TF.agg55 rfl ?_) | (refine r_load1b 0 rfl rfl rfl TF.agg55 rfl ?_) | (refine r_load1b 1 rfl rfl rfl TF.agg55 rfl ?_)
     refine g_run rfl rfl hg78 ?_
     refine r_move rfl rfl ?_
     refine g_run rfl rfl hg78 ?_
     first | (refine r_lookup 0 (keyEnc_string TF.un9) (ev := bts) [] rfl rfl rfl TF.map55 TF.zavS rfl ?_) | (refine r_lookup 1 (keyEnc_string TF.un9) (ev := bts) [] rfl rfl rfl TF.map55 TF.zavS rfl ?_)
     refine g_run rfl rfl hg78 ?_
     refine r_move rfl rfl ?_
     refine g_run rfl rfl hg78 ?_
     refine r_call0 hq rfl rfl (.cons (.ev rfl rfl) (.cons (.ev rfl rfl) .nil)) (equal_ok _ _) rfl TF.en27 rfl (fun r hr => ?_)
     obtain rfl := hr
     refine g_run rfl rfl hg78 ?_
     refine r_not rfl rfl ?_
     refine r_pickT rfl hg78 rfl rfl ?_
     refine awl_nil ?_
     refine x_then ?_
     refine awp_cond rfl (fun hc3 => ?_) (fun hc3 => ?_)
     ·
      rw [hdq] at hc3 ⊢
      have hne : decide ((lookF a x).getD [] = d) = false := by rw [← htx.get]; simpa using hc3
      have ht : chgF a b x = some ⟨3, x, E0, d⟩ := by rw [chgF, hq2]; simp only [hne, cond_false]
      have hdl : d.length ≤ 1000000 := by have := look_len hdb x; rw [hq2] at this; simpa using this
      refine awp_region ?_
      refine r_move rfl rfl ?_
      refine r_move rfl rfl ?_
      refine r_move rfl rfl ?_
      refine r_callH hcs hq rfl rfl (.cons (.ev rfl rfl) .nil) (cloneH_ok d hdl) TF.en30 rfl ?_
      refine r_build (parts := [(0, .const ((Go.Value.int Go.IntKind.i64 3))), (1, .tmp 87), (3, .tmp 89)]) rfl TF.pl50 (TF.zeroHC Cs) rfl rfl rfl ?_
      refine r_lit 91 (parts := [(0, .tmp 90)]) rfl TF.sl28 TF.sz50 TF.zraw50 rfl rfl rfl rfl rfl rfl rfl ?_
      refine r_append 9 rfl (by first | exact .own _ | exact .nil) rfl (by first | exact .sl _ | exact .own _ _ | exact .nil) TF.sl28 TF.sz50 (by decide) TF.by50 TF.zlen50 (by simp [chunks] <;> omega) (by simp [chunks] <;> omega) rfl ?_
      refine r_assign rfl rfl ?_
      refine awl_nil ?_
      refine x_block ?_
      refine x_then ?_
      refine awp_region ?_
      refine r_ari _ rfl rfl rfl (wrap_id (by first | omega | (simp; omega))) rfl ?_
      refine r_move rfl rfl ?_
      refine awl_nil ?_
      refine x_then ?_
      have et := fmS_step (f := chgF a b) hx
      rw [ht] at et
      simp only [Option.toList_some, Option.toList_none, List.append_nil] at et
      refine ⟨(namesF a).length - (k + 1), ⟨111, [(5, .a (.cp [.v (.map (some bx))])), (6, .a (.cp [.v (.map (some by_))])), (8, .a (.v (.slice none 0 0))), (9, .own 9 4 ((gone ++ ((namesF a).take (k + 1)).filterMap (chgF a b)).map (FC.csH Cs))), (65, .a (strsA (namesF a))), (66, .a (.v (.int .i64 (((namesF a).map (fun s : ByteArray => [AV.v (.string s)])).length)))), (67, .a (.v (.int .i64 (((k + 1) : Int)))))], [⟨bx, true, .map (encM Value.string bts mx)⟩, ⟨by_, true, .map (encM Value.string bts my)⟩]⟩, ⟨rfl, (Slots.cons rfl (by first | exact .refl _ | exact .nilOwn _ _ | exact .nilSl _ | exact .ownSl _ _ _  | exact SV.le.ownEq (by first | rfl | (rw [et, ← List.append_assoc gone, List.map_append (l₁ := (gone ++ ((namesF a).take k).filterMap (chgF a b)))]; rfl) | (rw [et]; first | done | rfl)) | exact SV.le.of_eq (by first | rfl | (rw [et, ← List.append_assoc gone, List.map_append (l₁ := (gone ++ ((namesF a).take k).filterMap (chgF a b)))]; rfl) | (rw [et]; first | done | rfl))) (Slots.cons rfl (by first | exact .refl _ | exact .nilOwn _ _ | exact .nilSl _ | exact .ownSl _ _ _  | exact SV.le.ownEq (by first | rfl | (rw [et, ← List.append_assoc gone, List.map_append (l₁ := (gone ++ ((namesF a).take k).filterMap (chgF a b)))]; rfl) | (rw [et]; first | done | rfl)) | exact SV.le.of_eq (by first | rfl | (rw [et, ← List.append_assoc gone, List.map_append (l₁ := (gone ++ ((namesF a).take k).filterMap (chgF a b)))]; rfl) | (rw [et]; first | done | rfl))) (Slots.cons rfl (by first | exact .refl _ | exact .nilOwn _ _ | exact .nilSl _ | exact .ownSl _ _ _  | exact SV.le.ownEq (by first | rfl | (rw [et, ← List.append_assoc gone, List.map_append (l₁ := (gone ++ ((namesF a).take k).filterMap (chgF a b)))]; rfl) | (rw [et]; first | done | rfl)) | exact SV.le.of_eq (by first | rfl | (rw [et, ← List.append_assoc gone, List.map_append (l₁ := (gone ++ ((namesF a).take k).filterMap (chgF a b)))]; rfl) | (rw [et]; first | done | rfl))) (Slots.cons rfl (by first | exact .refl _ | exact .nilOwn _ _ | exact .nilSl _ | exact .ownSl _ _ _  | exact SV.le.ownEq (by first | rfl | (rw [et, ← List.append_assoc gone, List.map_append (l₁ := (gone ++ ((namesF a).take k).filterMap (chgF a b)))]; rfl) | (rw [et]; first | done | rfl)) | exact SV.le.of_eq (by first | rfl | (rw [et, ← List.append_assoc gone, List.map_append (l₁ := (gone ++ ((namesF a).take k).filterMap (chgF a b)))]; rfl) | (rw [et]; first | done | rfl))) (Slots.cons rfl (by first | exact .refl _ | exact .nilOwn _ _ | exact .nilSl _ | exact .ownSl _ _ _  | exact SV.le.ownEq (by first | rfl | (rw [et, ← List.append_assoc gone, List.map_append (l₁ := (gone ++ ((namesF a).take k).filterMap (chgF a b)))]; rfl) | (rw [et]; first | done | rfl)) | exact SV.le.of_eq (by first | rfl | (rw [et, ← List.append_assoc gone, List.map_append (l₁ := (gone ++ ((namesF a).take k).filterMap (chgF a b)))]; rfl) | (rw [et]; first | done | rfl))) (Slots.cons rfl (by first | exact .refl _ | exact .nilOwn _ _ | exact .nilSl _ | exact .ownSl _ _ _  | exact SV.le.ownEq (by first | rfl | (rw [et, ← List.append_assoc gone, List.map_append (l₁ := (gone ++ ((namesF a).take k).filterMap (chgF a b)))]; rfl) | (rw [et]; first | done | rfl)) | exact SV.le.of_eq (by first | rfl | (rw [et, ← List.append_assoc gone, List.map_append (l₁ := (gone ++ ((namesF a).take k).filterMap (chgF a b)))]; rfl) | (rw [et]; first | done | rfl))) (Slots.cons rfl (by first | exact .refl _ | exact .nilOwn _ _ | exact .nilSl _ | exact .ownSl _ _ _  | exact SV.le.ownEq (by first | rfl | (rw [et, ← List.append_assoc gone, List.map_append (l₁ := (gone ++ ((namesF a).take k).filterMap (chgF a b)))]; rfl) | (rw [et]; first | done | rfl)) | exact SV.le.of_eq (by first | rfl | (rw [et, ← List.append_assoc gone, List.map_append (l₁ := (gone ++ ((namesF a).take k).filterMap (chgF a b)))]; rfl) | (rw [et]; first | done | rfl))) Slots.nil))))))), (by first | exact List.Sublist.refl _ | exact .cons_cons _ (.cons _ (.refl _)) | exact List.nil_sublist _ | exact .cons _ (.refl _) | exact .cons _ (.cons _ (.refl _)) | exact .cons _ (.cons _ (.cons _ (.refl _))) | exact .cons _ (.cons _ (.cons _ (.cons _ (.refl _)))) | exact .cons_cons _ (List.nil_sublist _))⟩, (by omega), ⟨k + 1, rfl, rfl, (by omega)⟩⟩
     ·
      rw [hdq] at hc3
      have hne : decide ((lookF a x).getD [] = d) = true := by rw [← htx.get]; simpa using hc3
      have ht : chgF a b x = none := by rw [chgF, hq2]; simp only [hne, cond_true]
      refine awp_skip ?_
      refine x_block ?_
      refine x_then ?_
      refine awp_region ?_
      refine r_ari _ rfl rfl rfl (wrap_id (by first | omega | (simp; omega))) rfl ?_
      refine r_move rfl rfl ?_
      refine awl_nil ?_
      refine x_then ?_
      have et := fmS_step (f := chgF a b) hx
      rw [ht] at et
      simp only [Option.toList_some, Option.toList_none, List.append_nil] at et
      refine ⟨(namesF a).length - (k + 1), ⟨111, [(5, .a (.cp [.v (.map (some bx))])), (6, .a (.cp [.v (.map (some by_))])), (8, .a (.v (.slice none 0 0))), (9, .own 9 4 ((gone ++ ((namesF a).take (k + 1)).filterMap (chgF a b)).map (FC.csH Cs))), (65, .a (strsA (namesF a))), (66, .a (.v (.int .i64 (((namesF a).map (fun s : ByteArray => [AV.v (.string s)])).length)))), (67, .a (.v (.int .i64 (((k + 1) : Int)))))], [⟨bx, true, .map (encM Value.string bts mx)⟩, ⟨by_, true, .map (encM Value.string bts my)⟩]⟩, ⟨rfl, (Slots.cons rfl (by first | exact .refl _ | exact .nilOwn _ _ | exact .nilSl _ | exact .ownSl _ _ _  | exact SV.le.ownEq (by first | rfl | (rw [et, ← List.append_assoc gone, List.map_append (l₁ := (gone ++ ((namesF a).take k).filterMap (chgF a b)))]; rfl) | (rw [et]; first | done | rfl)) | exact SV.le.of_eq (by first | rfl | (rw [et, ← List.append_assoc gone, List.map_append (l₁ := (gone ++ ((namesF a).take k).filterMap (chgF a b)))]; rfl) | (rw [et]; first | done | rfl))) (Slots.cons rfl (by first | exact .refl _ | exact .nilOwn _ _ | exact .nilSl _ | exact .ownSl _ _ _  | exact SV.le.ownEq (by first | rfl | (rw [et, ← List.append_assoc gone, List.map_append (l₁ := (gone ++ ((namesF a).take k).filterMap (chgF a b)))]; rfl) | (rw [et]; first | done | rfl)) | exact SV.le.of_eq (by first | rfl | (rw [et, ← List.append_assoc gone, List.map_append (l₁ := (gone ++ ((namesF a).take k).filterMap (chgF a b)))]; rfl) | (rw [et]; first | done | rfl))) (Slots.cons rfl (by first | exact .refl _ | exact .nilOwn _ _ | exact .nilSl _ | exact .ownSl _ _ _  | exact SV.le.ownEq (by first | rfl | (rw [et, ← List.append_assoc gone, List.map_append (l₁ := (gone ++ ((namesF a).take k).filterMap (chgF a b)))]; rfl) | (rw [et]; first | done | rfl)) | exact SV.le.of_eq (by first | rfl | (rw [et, ← List.append_assoc gone, List.map_append (l₁ := (gone ++ ((namesF a).take k).filterMap (chgF a b)))]; rfl) | (rw [et]; first | done | rfl))) (Slots.cons rfl (by first | exact .refl _ | exact .nilOwn _ _ | exact .nilSl _ | exact .ownSl _ _ _  | exact SV.le.ownEq (by first | rfl | (rw [et, ← List.append_assoc gone, List.map_append (l₁ := (gone ++ ((namesF a).take k).filterMap (chgF a b)))]; rfl) | (rw [et]; first | done | rfl)) | exact SV.le.of_eq (by first | rfl | (rw [et, ← List.append_assoc gone, List.map_append (l₁ := (gone ++ ((namesF a).take k).filterMap (chgF a b)))]; rfl) | (rw [et]; first | done | rfl))) (Slots.cons rfl (by first | exact .refl _ | exact .nilOwn _ _ | exact .nilSl _ | exact .ownSl _ _ _  | exact SV.le.ownEq (by first | rfl | (rw [et, ← List.append_assoc gone, List.map_append (l₁ := (gone ++ ((namesF a).take k).filterMap (chgF a b)))]; rfl) | (rw [et]; first | done | rfl)) | exact SV.le.of_eq (by first | rfl | (rw [et, ← List.append_assoc gone, List.map_append (l₁ := (gone ++ ((namesF a).take k).filterMap (chgF a b)))]; rfl) | (rw [et]; first | done | rfl))) (Slots.cons rfl (by first | exact .refl _ | exact .nilOwn _ _ | exact .nilSl _ | exact .ownSl _ _ _  | exact SV.le.ownEq (by first | rfl | (rw [et, ← List.append_assoc gone, List.map_append (l₁ := (gone ++ ((namesF a).take k).filterMap (chgF a b)))]; rfl) | (rw [et]; first | done | rfl)) | exact SV.le.of_eq (by first | rfl | (rw [et, ← List.append_assoc gone, List.map_append (l₁ := (gone ++ ((namesF a).take k).filterMap (chgF a b)))]; rfl) | (rw [et]; first | done | rfl))) (Slots.cons rfl (by first | exact .refl _ | exact .nilOwn _ _ | exact .nilSl _ | exact .ownSl _ _ _  | exact SV.le.ownEq (by first | rfl | (rw [et, ← List.append_assoc gone, List.map_append (l₁ := (gone ++ ((namesF a).take k).filterMap (chgF a b)))]; rfl) | (rw [et]; first | done | rfl)) | exact SV.le.of_eq (by first | rfl | (rw [et, ← List.append_assoc gone, List.map_append (l₁ := (gone ++ ((namesF a).take k).filterMap (chgF a b)))]; rfl) | (rw [et]; first | done | rfl))) Slots.nil))))))), (by first | exact List.Sublist.refl _ | exact .cons_cons _ (.cons _ (.refl _)) | exact List.nil_sublist _ | exact .cons _ (.refl _) | exact .cons _ (.cons _ (.refl _)) | exact .cons _ (.cons _ (.cons _ (.refl _))) | exact .cons _ (.cons _ (.cons _ (.cons _ (.refl _)))) | exact .cons_cons _ (List.nil_sublist _))⟩, (by omega), ⟨k + 1, rfl, rfl, (by omega)⟩⟩
    ·
     have hq2 : lookF b x = none := by
      rw [← hty.get]
      cases h : mget my x with
      | none => rfl
      | some d => rw [h] at hg78; cases hg78
     have ht : chgF a b x = none := by rw [chgF, hq2]
     refine g_skip rfl rfl hg78 rfl ?_
     refine g_skip rfl rfl hg78 rfl ?_
     refine g_skip rfl rfl hg78 rfl ?_
     refine g_skip rfl rfl hg78 rfl ?_
     refine g_skip rfl rfl hg78 rfl ?_
     refine g_skip rfl rfl hg78 rfl ?_
     refine r_pickF rfl hg78 rfl rfl ?_
     refine awl_nil ?_
     refine x_then ?_
     refine awp_condF rfl ?_
     refine awp_skip ?_
     refine x_block ?_
     refine x_then ?_
     refine awp_region ?_
     refine r_ari _ rfl rfl rfl (wrap_id (by first | omega | (simp; omega))) rfl ?_
     refine r_move rfl rfl ?_
     refine awl_nil ?_
     refine x_then ?_
     have et := fmS_step (f := chgF a b) hx
     rw [ht] at et
     simp only [Option.toList_some, Option.toList_none, List.append_nil] at et
     refine ⟨(namesF a).length - (k + 1), ⟨111, [(5, .a (.cp [.v (.map (some bx))])), (6, .a (.cp [.v (.map (some by_))])), (8, .a (.v (.slice none 0 0))), (9, .own 9 4 ((gone ++ ((namesF a).take (k + 1)).filterMap (chgF a b)).map (FC.csH Cs))), (65, .a (strsA (namesF a))), (66, .a (.v (.int .i64 (((namesF a).map (fun s : ByteArray => [AV.v (.string s)])).length)))), (67, .a (.v (.int .i64 (((k + 1) : Int)))))], [⟨bx, true, .map (encM Value.string bts mx)⟩, ⟨by_, true, .map (encM Value.string bts my)⟩]⟩, ⟨rfl, (Slots.cons rfl (by first | exact .refl _ | exact .nilOwn _ _ | exact .nilSl _ | exact .ownSl _ _ _  | exact SV.le.ownEq (by first | rfl | (rw [et, ← List.append_assoc gone, List.map_append (l₁ := (gone ++ ((namesF a).take k).filterMap (chgF a b)))]; rfl) | (rw [et]; first | done | rfl)) | exact SV.le.of_eq (by first | rfl | (rw [et, ← List.append_assoc gone, List.map_append (l₁ := (gone ++ ((namesF a).take k).filterMap (chgF a b)))]; rfl) | (rw [et]; first | done | rfl))) (Slots.cons rfl (by first | exact .refl _ | exact .nilOwn _ _ | exact .nilSl _ | exact .ownSl _ _ _  | exact SV.le.ownEq (by first | rfl | (rw [et, ← List.append_assoc gone, List.map_append (l₁ := (gone ++ ((namesF a).take k).filterMap (chgF a b)))]; rfl) | (rw [et]; first | done | rfl)) | exact SV.le.of_eq (by first | rfl | (rw [et, ← List.append_assoc gone, List.map_append (l₁ := (gone ++ ((namesF a).take k).filterMap (chgF a b)))]; rfl) | (rw [et]; first | done | rfl))) (Slots.cons rfl (by first | exact .refl _ | exact .nilOwn _ _ | exact .nilSl _ | exact .ownSl _ _ _  | exact SV.le.ownEq (by first | rfl | (rw [et, ← List.append_assoc gone, List.map_append (l₁ := (gone ++ ((namesF a).take k).filterMap (chgF a b)))]; rfl) | (rw [et]; first | done | rfl)) | exact SV.le.of_eq (by first | rfl | (rw [et, ← List.append_assoc gone, List.map_append (l₁ := (gone ++ ((namesF a).take k).filterMap (chgF a b)))]; rfl) | (rw [et]; first | done | rfl))) (Slots.cons rfl (by first | exact .refl _ | exact .nilOwn _ _ | exact .nilSl _ | exact .ownSl _ _ _  | exact SV.le.ownEq (by first | rfl | (rw [et, ← List.append_assoc gone, List.map_append (l₁ := (gone ++ ((namesF a).take k).filterMap (chgF a b)))]; rfl) | (rw [et]; first | done | rfl)) | exact SV.le.of_eq (by first | rfl | (rw [et, ← List.append_assoc gone, List.map_append (l₁ := (gone ++ ((namesF a).take k).filterMap (chgF a b)))]; rfl) | (rw [et]; first | done | rfl))) (Slots.cons rfl (by first | exact .refl _ | exact .nilOwn _ _ | exact .nilSl _ | exact .ownSl _ _ _  | exact SV.le.ownEq (by first | rfl | (rw [et, ← List.append_assoc gone, List.map_append (l₁ := (gone ++ ((namesF a).take k).filterMap (chgF a b)))]; rfl) | (rw [et]; first | done | rfl)) | exact SV.le.of_eq (by first | rfl | (rw [et, ← List.append_assoc gone, List.map_append (l₁ := (gone ++ ((namesF a).take k).filterMap (chgF a b)))]; rfl) | (rw [et]; first | done | rfl))) (Slots.cons rfl (by first | exact .refl _ | exact .nilOwn _ _ | exact .nilSl _ | exact .ownSl _ _ _  | exact SV.le.ownEq (by first | rfl | (rw [et, ← List.append_assoc gone, List.map_append (l₁ := (gone ++ ((namesF a).take k).filterMap (chgF a b)))]; rfl) | (rw [et]; first | done | rfl)) | exact SV.le.of_eq (by first | rfl | (rw [et, ← List.append_assoc gone, List.map_append (l₁ := (gone ++ ((namesF a).take k).filterMap (chgF a b)))]; rfl) | (rw [et]; first | done | rfl))) (Slots.cons rfl (by first | exact .refl _ | exact .nilOwn _ _ | exact .nilSl _ | exact .ownSl _ _ _  | exact SV.le.ownEq (by first | rfl | (rw [et, ← List.append_assoc gone, List.map_append (l₁ := (gone ++ ((namesF a).take k).filterMap (chgF a b)))]; rfl) | (rw [et]; first | done | rfl)) | exact SV.le.of_eq (by first | rfl | (rw [et, ← List.append_assoc gone, List.map_append (l₁ := (gone ++ ((namesF a).take k).filterMap (chgF a b)))]; rfl) | (rw [et]; first | done | rfl))) Slots.nil))))))), (by first | exact List.Sublist.refl _ | exact .cons_cons _ (.cons _ (.refl _)) | exact List.nil_sublist _ | exact .cons _ (.refl _) | exact .cons _ (.cons _ (.refl _)) | exact .cons _ (.cons _ (.cons _ (.refl _))) | exact .cons _ (.cons _ (.cons _ (.cons _ (.refl _)))) | exact .cons_cons _ (List.nil_sublist _))⟩, (by omega), ⟨k + 1, rfl, rfl, (by omega)⟩⟩
   ·
    have hge : (namesF a).length ≤ k := by have := of_decide_eq_false hc2; simp at this; omega
    have hkl : (namesF a).take k = namesF a := List.take_of_length_le hge
    rw [hkl]
    have hf2 : ((namesF a).filterMap (chgF a b)).length ≤ (namesF a).length := List.length_filterMap_le _ _
    refine awp_exit ?_
    refine x_thenE ?_
    refine x_thenE ?_
    refine x_blockE ?_
    refine x_then ?_
    refine awp_seq ?_
    refine awp_seq ?_
    refine awp_region ?_
    refine r_move rfl rfl ?_
    first | (refine r_lenS rfl rfl TF.sl57 rfl ?_) | (refine r_lenNil rfl TF.sl57 rfl ?_) | (refine r_lenV rfl TF.sl57 rfl ?_)
    refine r_move rfl rfl ?_
    refine awl_nil ?_
    refine x_then ?_
    refine awp_block ?_
    refine awp_loop (fun nn0 S => S = ⟨111, [(9, .own 9 4 ((gone ++ (namesF a).filterMap (chgF a b)).map (FC.csH Cs))), (95, .a (.v (.int .i64 (0)))), (96, .a (.v (.int .i64 (0))))], []⟩ ∧ nn0 = 0) (0) ⟨111, [(9, .own 9 4 ((gone ++ (namesF a).filterMap (chgF a b)).map (FC.csH Cs))), (95, .a (.v (.int .i64 (0)))), (96, .a (.v (.int .i64 (0))))], []⟩ ⟨rfl, (Slots.cons rfl (by first | exact .refl _ | exact .nilOwn _ _ | exact .nilSl _ | exact .ownSl _ _ _  | exact SV.le.of_eq (by simp)) (Slots.cons rfl (by first | exact .refl _ | exact .nilOwn _ _ | exact .nilSl _ | exact .ownSl _ _ _  | exact SV.le.of_eq (by simp)) (Slots.cons rfl (by first | exact .refl _ | exact .nilOwn _ _ | exact .nilSl _ | exact .ownSl _ _ _  | exact SV.le.of_eq (by simp)) Slots.nil))), (by first | exact List.Sublist.refl _ | exact .cons_cons _ (.cons _ (.refl _)) | exact List.nil_sublist _ | exact .cons _ (.refl _) | exact .cons _ (.cons _ (.refl _)) | exact .cons _ (.cons _ (.cons _ (.refl _))) | exact .cons _ (.cons _ (.cons _ (.cons _ (.refl _)))) | exact .cons_cons _ (List.nil_sublist _))⟩ ⟨rfl, rfl⟩ ?_
    rintro nn0 _ ⟨rfl, rfl⟩
    refine awp_seq ?_
    refine awp_region ?_
    refine r_cmp rfl rfl rfl rfl ?_
    refine awl_nil ?_
    refine x_then ?_
    refine awp_seq ?_
    refine awp_cond rfl (fun hc4 => ?_) (fun hc4 => ?_)
    ·
     exfalso; exact absurd hc4 (by decide)
    ·
     refine awp_exit ?_
     refine x_thenE ?_
     refine x_thenE ?_
     refine x_blockE ?_
     refine x_then ?_
     refine awp_seq ?_
     refine awp_region ?_
     have hofe : ((gone ++ (namesF a).filterMap (chgF a b)).map (FC.csH Cs)) = (OfF a b).map (FC.csH Cs) := by rw [OfF, show splitE a b = ([], [], gone) from hst]; simp
     rw [hofe]
     refine r_move rfl rfl ?_
     refine awl_ownbufH 110 rfl (flat_fc Cs _) rfl (fun h0 => ?_) (fun gb gc ge => ?_)
     ·
      refine r_assign rfl rfl ?_
      refine awl_nil ?_
      refine x_then ?_
      refine awp_ret ?_
      exact ⟨(.inl rfl), _, [], (.one (by first | exact .mk rfl rfl | exact .nil rfl)), (.inl ⟨h0, rfl, rfl⟩), (List.nil_sublist _), (by simp)⟩
     ·
      refine r_assign rfl rfl ?_
      refine awl_nil ?_
      refine x_then ?_
      refine awp_ret ?_
      exact ⟨(.inl rfl), _, [⟨gb, true, .buf 4 ((OfF a b).map (FC.csH Cs)) gc ge⟩], (.one (by first | exact .mk rfl rfl | exact .nil rfl)), (.inr ⟨gb, gc, ge, rfl, rfl⟩), (by first | exact List.Sublist.refl _ | exact .cons_cons _ (.cons _ (.refl _)) | exact List.nil_sublist _ | exact .cons _ (.refl _) | exact .cons _ (.cons _ (.refl _)) | exact .cons _ (.cons _ (.cons _ (.refl _))) | exact .cons _ (.cons _ (.cons _ (.cons _ (.refl _)))) | exact .cons_cons _ (List.nil_sublist _)), (by simp)⟩
 ·
  refine r_assign rfl rfl ?_
  refine r_assign rfl rfl ?_
  refine awl_nil ?_
  refine x_then ?_
  refine awp_seq ?_
  refine awp_region ?_
  refine r_assign rfl rfl ?_
  refine r_assign rfl rfl ?_
  refine awl_nil ?_
  refine x_then ?_
  refine awp_seq ?_
  refine awp_seq ?_
  refine awp_region ?_
  refine r_move rfl rfl ?_
  first | (refine r_lenS rfl rfl TF.sl57 rfl ?_) | (refine r_lenNil rfl TF.sl57 rfl ?_) | (refine r_lenV rfl TF.sl57 rfl ?_)
  refine r_move rfl rfl ?_
  refine awl_nil ?_
  refine x_then ?_
  refine awp_block ?_
  refine awp_loop (fun nn0 S => ∃ k : Nat, ∃ came : List ByteArray, ∃ out : List FC, ∃ gone : List FC, ∃ ext : List AV, S = ⟨111, [(5, .a (.cp [.v (.map (some bx))])), (6, .a (.cp [.v (.map (some by_))])), (8, .a (.v (.slice (some ⟨g2, 0, none⟩) came.length cap))), (9, .own 9 4 (out.map (FC.csH Cs))), (10, .own 10 4 (gone.map (FC.csH Cs))), (30, .a (strsA (wentF a b))), (31, .a (.v (.int .i64 (((wentF a b).map (fun s : ByteArray => [AV.v (.string s)])).length)))), (32, .a (.v (.int .i64 ((k : Int)))))], [⟨g2, true, .box (strsC came ++ ext)⟩, ⟨bx, true, .map (encM Value.string bts mx)⟩, ⟨by_, true, .map (encM Value.string bts my)⟩]⟩ ∧ nn0 = (wentF a b).length - k ∧ (k ≤ (wentF a b).length) ∧ (splitF a b k = (came, out, gone)) ∧ (cap = came.length + ext.length) ∧ (out.length ≤ k) ∧ (gone.length ≤ k) ∧ (came.length ≤ 1000)) ((wentF a b).length - (0)) ⟨111, [(5, .a (.cp [.v (.map (some bx))])), (6, .a (.cp [.v (.map (some by_))])), (8, .a (.v (.slice (some ⟨g2, 0, none⟩) ((wentF b a)).length cap))), (9, .own 9 4 (([]).map (FC.csH Cs))), (10, .own 10 4 (([]).map (FC.csH Cs))), (30, .a (strsA (wentF a b))), (31, .a (.v (.int .i64 (((wentF a b).map (fun s : ByteArray => [AV.v (.string s)])).length)))), (32, .a (.v (.int .i64 (((0) : Int)))))], [⟨g2, true, .box (strsC ((wentF b a)) ++ (ext))⟩, ⟨bx, true, .map (encM Value.string bts mx)⟩, ⟨by_, true, .map (encM Value.string bts my)⟩]⟩ ⟨rfl, (Slots.cons rfl (by first | exact .refl _ | exact .nilOwn _ _ | exact .nilSl _ | exact .ownSl _ _ _  | exact SV.le.of_eq (by simp)) (Slots.cons rfl (by first | exact .refl _ | exact .nilOwn _ _ | exact .nilSl _ | exact .ownSl _ _ _  | exact SV.le.of_eq (by simp)) (Slots.cons rfl (by first | exact .refl _ | exact .nilOwn _ _ | exact .nilSl _ | exact .ownSl _ _ _  | exact SV.le.of_eq (by simp)) (Slots.cons rfl (by first | exact .refl _ | exact .nilOwn _ _ | exact .nilSl _ | exact .ownSl _ _ _  | exact SV.le.of_eq (by simp)) (Slots.cons rfl (by first | exact .refl _ | exact .nilOwn _ _ | exact .nilSl _ | exact .ownSl _ _ _  | exact SV.le.of_eq (by simp)) (Slots.cons rfl (by first | exact .refl _ | exact .nilOwn _ _ | exact .nilSl _ | exact .ownSl _ _ _  | exact SV.le.of_eq (by simp)) (Slots.cons rfl (by first | exact .refl _ | exact .nilOwn _ _ | exact .nilSl _ | exact .ownSl _ _ _  | exact SV.le.of_eq (by simp)) (Slots.cons rfl (by first | exact .refl _ | exact .nilOwn _ _ | exact .nilSl _ | exact .ownSl _ _ _  | exact SV.le.of_eq (by simp)) Slots.nil)))))))), (by first | exact List.Sublist.refl _ | exact .cons_cons _ (.cons _ (.refl _)) | exact List.nil_sublist _ | exact .cons _ (.refl _) | exact .cons _ (.cons _ (.refl _)) | exact .cons _ (.cons _ (.cons _ (.refl _))) | exact .cons _ (.cons _ (.cons _ (.cons _ (.refl _)))) | exact .cons_cons _ (List.nil_sublist _))⟩ ⟨0, (wentF b a), [], [], ext, rfl, rfl, Nat.zero_le _, rfl, hcap, (by simp), (by simp), (by have := went_len b a; omega)⟩ ?_
  rintro nn0 _ ⟨k, came, out, gone, ext, rfl, rfl, hk, hst, hce, hol, hgl, hcl⟩
  refine awp_seq ?_
  refine awp_region ?_
  refine r_cmp rfl rfl rfl rfl ?_
  refine awl_nil ?_
  refine x_then ?_
  refine awp_seq ?_
  refine awp_cond rfl (fun hc0 => ?_) (fun hc0 => ?_)
  ·
   have hltx : k < (wentF a b).length := by have := of_decide_eq_true hc0; simpa using this
   obtain ⟨x, hx⟩ := get_lt hltx
   refine awp_skip ?_
   refine x_then ?_
   refine awp_seq ?_
   refine awp_block ?_
   refine awp_seq ?_
   refine awp_region ?_
   refine r_index rfl rfl rfl TF.sl57 TF.sz9 (by omega) (get_map hx) rfl ?_
   first | (refine r_load1 rfl TF.agg9 rfl ?_) | (refine r_load1b 0 rfl rfl rfl TF.agg9 rfl ?_) | (refine r_load1b 1 rfl rfl rfl TF.agg9 rfl ?_) | (refine r_load1b 2 rfl rfl rfl TF.agg9 rfl ?_)
   refine r_alloc TF.zero9 rfl (fun b12 => ?_)
   first | (refine r_store 0 rfl rfl rfl TF.sz9 rfl rfl rfl ?_) | (refine r_store 1 rfl rfl rfl TF.sz9 rfl rfl rfl ?_) | (refine r_store 2 rfl rfl rfl TF.sz9 rfl rfl rfl ?_) | (refine r_store 3 rfl rfl rfl TF.sz9 rfl rfl rfl ?_)
   refine awl_nil ?_
   refine x_then ?_
   refine awp_seq ?_
   refine awp_region ?_
   refine awl_imp (imp_commit 0 12 rfl rfl rfl rfl) ?_
   refine r_move rfl rfl ?_
   refine r_makeFunc rfl (.cons (.ev rfl rfl) (.cons (.ev rfl rfl) (.cons (.ev rfl rfl) .nil))) rfl ?_
   refine r_callO hq rfl rfl (.cons (.ev rfl rfl) (.cons (.ev rfl rfl) .nil)) (idxV_ok (os := [⟨bx, true, .map (encM Value.string bts mx)⟩, ⟨by_, true, .map (encM Value.string bts my)⟩]) (hitF a b x) TF.en26 (fun t => of1_ok htx hty x t) came (by omega)) rfl TF.en25 (List.Sublist.refl _) rfl (fun r nobjs hr => ?_)
   obtain ⟨rfl, rfl⟩ := hr
   refine r_assign rfl rfl ?_
   refine awl_nil ?_
   refine x_then ?_
   refine awp_seq ?_
   refine awp_seq ?_
   refine awp_region ?_
   refine r_move rfl rfl ?_
   refine r_cmp rfl rfl rfl rfl ?_
   refine awl_nil ?_
   refine x_then ?_
   refine awp_cond rfl (fun hc1 => ?_) (fun hc1 => ?_)
   ·
    have hno := optI_none (of_decide_eq_true hc1)
    refine awp_seq ?_
    refine awp_region ?_
    refine r_move rfl rfl ?_
    first | (refine r_load1 rfl TF.agg9 rfl ?_) | (refine r_load1b 0 rfl rfl rfl TF.agg9 rfl ?_) | (refine r_load1b 1 rfl rfl rfl TF.agg9 rfl ?_) | (refine r_load1b 2 rfl rfl rfl TF.agg9 rfl ?_) | (refine r_load1b 3 rfl rfl rfl TF.agg9 rfl ?_)
    refine r_build (parts := [(0, .const ((Go.Value.int Go.IntKind.i64 2))), (1, .tmp 42)]) rfl TF.pl50 (TF.zeroHC Cs) rfl rfl rfl ?_
    refine r_lit 44 (parts := [(0, .tmp 43)]) rfl TF.sl28 TF.sz50 TF.zraw50 rfl rfl rfl rfl rfl rfl rfl ?_
    refine r_append 10 rfl (by first | exact .own _ | exact .nil) rfl (by first | exact .sl _ | exact .own _ _ | exact .nil) TF.sl28 TF.sz50 (by decide) TF.by50 TF.zlen50 (by simp [chunks] <;> omega) (by simp [chunks] <;> omega) rfl ?_
    refine r_assign rfl rfl ?_
    refine awl_nil ?_
    refine x_then ?_
    refine awp_exit ?_
    refine x_thenE ?_
    refine x_blockE ?_
    refine x_then ?_
    refine awp_region ?_
    refine r_ari _ rfl rfl rfl (wrap_id (by first | omega | (simp; omega))) rfl ?_
    refine r_move rfl rfl ?_
    refine awl_nil ?_
    refine x_then ?_
    refine ⟨(wentF a b).length - (k + 1), ⟨111, [(5, .a (.cp [.v (.map (some bx))])), (6, .a (.cp [.v (.map (some by_))])), (8, .a (.v (.slice (some ⟨g2, 0, none⟩) (came).length cap))), (9, .own 9 4 ((out).map (FC.csH Cs))), (10, .own 10 4 ((gone ++ [(⟨2, x, E0, []⟩ : FC)]).map (FC.csH Cs))), (30, .a (strsA (wentF a b))), (31, .a (.v (.int .i64 (((wentF a b).map (fun s : ByteArray => [AV.v (.string s)])).length)))), (32, .a (.v (.int .i64 (((k + 1) : Int)))))], [⟨g2, true, .box (strsC (came) ++ (ext))⟩, ⟨bx, true, .map (encM Value.string bts mx)⟩, ⟨by_, true, .map (encM Value.string bts my)⟩]⟩, ⟨rfl, (Slots.cons rfl (by first | exact .refl _ | exact .nilOwn _ _ | exact .nilSl _ | exact .ownSl _ _ _  | exact SV.le.ownEq (by first | rfl | (rw [List.map_append]; rfl) | (simp [List.map_append]; done)) | exact SV.le.of_eq (by first | rfl | (rw [List.map_append]; rfl) | (simp [List.map_append]; done))) (Slots.cons rfl (by first | exact .refl _ | exact .nilOwn _ _ | exact .nilSl _ | exact .ownSl _ _ _  | exact SV.le.ownEq (by first | rfl | (rw [List.map_append]; rfl) | (simp [List.map_append]; done)) | exact SV.le.of_eq (by first | rfl | (rw [List.map_append]; rfl) | (simp [List.map_append]; done))) (Slots.cons rfl (by first | exact .refl _ | exact .nilOwn _ _ | exact .nilSl _ | exact .ownSl _ _ _  | exact SV.le.ownEq (by first | rfl | (rw [List.map_append]; rfl) | (simp [List.map_append]; done)) | exact SV.le.of_eq (by first | rfl | (rw [List.map_append]; rfl) | (simp [List.map_append]; done))) (Slots.cons rfl (by first | exact .refl _ | exact .nilOwn _ _ | exact .nilSl _ | exact .ownSl _ _ _  | exact SV.le.ownEq (by first | rfl | (rw [List.map_append]; rfl) | (simp [List.map_append]; done)) | exact SV.le.of_eq (by first | rfl | (rw [List.map_append]; rfl) | (simp [List.map_append]; done))) (Slots.cons rfl (by first | exact .refl _ | exact .nilOwn _ _ | exact .nilSl _ | exact .ownSl _ _ _  | exact SV.le.ownEq (by first | rfl | (rw [List.map_append]; rfl) | (simp [List.map_append]; done)) | exact SV.le.of_eq (by first | rfl | (rw [List.map_append]; rfl) | (simp [List.map_append]; done))) (Slots.cons rfl (by first | exact .refl _ | exact .nilOwn _ _ | exact .nilSl _ | exact .ownSl _ _ _  | exact SV.le.ownEq (by first | rfl | (rw [List.map_append]; rfl) | (simp [List.map_append]; done)) | exact SV.le.of_eq (by first | rfl | (rw [List.map_append]; rfl) | (simp [List.map_append]; done))) (Slots.cons rfl (by first | exact .refl _ | exact .nilOwn _ _ | exact .nilSl _ | exact .ownSl _ _ _  | exact SV.le.ownEq (by first | rfl | (rw [List.map_append]; rfl) | (simp [List.map_append]; done)) | exact SV.le.of_eq (by first | rfl | (rw [List.map_append]; rfl) | (simp [List.map_append]; done))) (Slots.cons rfl (by first | exact .refl _ | exact .nilOwn _ _ | exact .nilSl _ | exact .ownSl _ _ _  | exact SV.le.ownEq (by first | rfl | (rw [List.map_append]; rfl) | (simp [List.map_append]; done)) | exact SV.le.of_eq (by first | rfl | (rw [List.map_append]; rfl) | (simp [List.map_append]; done))) Slots.nil)))))))), (by first | exact List.Sublist.refl _ | exact .cons_cons _ (.cons _ (.refl _)) | exact List.nil_sublist _ | exact .cons _ (.refl _) | exact .cons _ (.cons _ (.refl _)) | exact .cons _ (.cons _ (.cons _ (.refl _))) | exact .cons _ (.cons _ (.cons _ (.cons _ (.refl _)))) | exact .cons_cons _ (List.nil_sublist _))⟩, (by omega), ⟨k + 1, came, out, gone ++ [(⟨2, x, E0, []⟩ : FC)], ext, rfl, rfl, (by omega), (split_none hx hst hno), hce, (by omega), (by simp; omega), hcl⟩⟩
   ·
    obtain ⟨i, hi⟩ := optI_some (o := came.findIdx? (hitF a b x)) (by have := of_decide_eq_false hc1; omega)
    have hoi : optI (came.findIdx? (hitF a b x)) = (i : Int) := by rw [hi]; rfl
    rw [hoi]
    obtain ⟨t0, ht0, _⟩ := fidx_get hi
    have hil := (List.getElem?_eq_some_iff.1 ht0).1
    refine awp_skip ?_
    refine x_then ?_
    refine awp_seq ?_
    refine awp_drawS [46, 47, 48, 49, 50, 51, 52, 53] [_, _, _, _, _, _, _, _] [] [(7, 53)] TF.mixed rfl rfl rfl ⟨⟨⟨⟨⟨⟨⟨⟨trivial
     , ⟨_, rfl, fun sl hd hr ho => by
       refine r_move (hr 9 _ rfl rfl rfl) rfl ?_
       exact awl_nil ⟨rfl, post_put⟩⟩⟩
     , ⟨_, rfl, fun sl hd hr ho => by
       first | (refine r_load1 (hr 12 _ rfl rfl rfl) TF.agg9 rfl ?_) | (refine r_load1b 0 (hr 12 _ rfl rfl rfl) rfl rfl TF.agg9 rfl ?_) | (refine r_load1b 1 (hr 12 _ rfl rfl rfl) rfl rfl TF.agg9 rfl ?_) | (refine r_load1b 2 (hr 12 _ rfl rfl rfl) rfl rfl TF.agg9 rfl ?_) | (refine r_load1b 3 (hr 12 _ rfl rfl rfl) rfl rfl TF.agg9 rfl ?_)
       exact awl_nil ⟨rfl, post_put⟩⟩⟩
     , ⟨_, rfl, fun sl hd hr ho => by
       refine r_move (hr 8 _ rfl rfl rfl) rfl ?_
       exact awl_nil ⟨rfl, post_put⟩⟩⟩
     , ⟨_, rfl, fun sl hd hr ho => by
       refine r_move (hr 13 _ rfl rfl rfl) rfl ?_
       exact awl_nil ⟨rfl, post_put⟩⟩⟩
     , ⟨_, rfl, fun sl hd hr ho => by
       refine r_indexV (hd 2 _ rfl rfl rfl) (hd 3 _ rfl rfl rfl) TF.sl57 TF.sz9 (by omega) (by omega) rfl ?_
       exact awl_nil ⟨rfl, post_put⟩⟩⟩
     , ⟨_, rfl, fun sl hd hr ho => by
       refine r_load1b 0 (hd 4 _ rfl rfl rfl) rfl (str_at ht0) TF.agg9 rfl ?_
       exact awl_nil ⟨rfl, post_put⟩⟩⟩
     , ⟨_, rfl, fun sl hd hr ho => by
       refine r_build (parts := [(0, .const ((Go.Value.int Go.IntKind.i64 4))), (1, .tmp 47), (2, .tmp 51)]) rfl TF.pl50 (TF.zeroHC Cs) (parts_cons rfl (parts_cons (hd 1 _ rfl rfl rfl) (parts_cons (hd 5 _ rfl rfl rfl) parts_nil))) rfl rfl ?_
       exact awl_nil ⟨rfl, post_put⟩⟩⟩
     , ⟨_, rfl, fun sl hd hr ho => by
       refine r_lit 53 (parts := [(0, .tmp 52)]) rfl TF.sl28 TF.sz50 TF.zraw50 rfl rfl (parts_cons (hd 6 _ rfl rfl rfl) parts_nil) rfl rfl rfl rfl ?_
       exact awl_nil ⟨rfl, (post_dem (ho 53 (List.mem_of_elem_eq_true rfl)))⟩⟩⟩
     (by rfl) ?_
    refine r_append 9 rfl (by first | exact .own _ | exact .nil) rfl (by first | exact .sl _ | exact .own _ _ | exact .nil) TF.sl28 TF.sz50 (by decide) TF.by50 TF.zlen50 (by simp [chunks] <;> omega) (by simp [chunks] <;> omega) rfl ?_
    refine r_assign rfl rfl ?_
    refine awl_nil ?_
    refine x_then ?_
    refine awp_region ?_
    refine r_move rfl rfl ?_
    refine r_move rfl rfl ?_
    refine r_move rfl rfl ?_
    refine r_ari _ rfl rfl rfl (wrap_id (by first | omega | (simp; omega))) rfl ?_
    refine r_callW hq [true, false, false] rfl rfl (.cons (.ev rfl rfl) (.cons (.ev rfl rfl) (.cons (.ev rfl rfl) .nil))) (delete_ok came i hil (by omega) hce) rfl TF.en28 rfl rfl (List.nil_sublist _) rfl (fun r nobjs hr => ?_)
    obtain ⟨ext', hce', rfl, rfl⟩ := hr
    refine r_assign rfl rfl ?_
    refine awl_nil ?_
    refine x_block ?_
    refine x_then ?_
    refine awp_region ?_
    refine r_ari _ rfl rfl rfl (wrap_id (by first | omega | (simp; omega))) rfl ?_
    refine r_move rfl rfl ?_
    refine awl_nil ?_
    refine x_then ?_
    refine ⟨(wentF a b).length - (k + 1), ⟨111, [(5, .a (.cp [.v (.map (some bx))])), (6, .a (.cp [.v (.map (some by_))])), (8, .a (.v (.slice (some ⟨g2, 0, none⟩) ((came.eraseIdx i)).length cap))), (9, .own 9 4 ((out ++ [(⟨4, x, t0, []⟩ : FC)]).map (FC.csH Cs))), (10, .own 10 4 ((gone).map (FC.csH Cs))), (30, .a (strsA (wentF a b))), (31, .a (.v (.int .i64 (((wentF a b).map (fun s : ByteArray => [AV.v (.string s)])).length)))), (32, .a (.v (.int .i64 (((k + 1) : Int)))))], [⟨g2, true, .box (strsC ((came.eraseIdx i)) ++ (ext'))⟩, ⟨bx, true, .map (encM Value.string bts mx)⟩, ⟨by_, true, .map (encM Value.string bts my)⟩]⟩, ⟨rfl, (Slots.cons rfl (by first | exact .refl _ | exact .nilOwn _ _ | exact .nilSl _ | exact .ownSl _ _ _  | exact SV.le.ownEq (by first | rfl | (rw [List.map_append]; rfl) | (simp [List.map_append]; done)) | exact SV.le.of_eq (by first | rfl | (rw [List.map_append]; rfl) | (simp [List.map_append]; done))) (Slots.cons rfl (by first | exact .refl _ | exact .nilOwn _ _ | exact .nilSl _ | exact .ownSl _ _ _  | exact SV.le.ownEq (by first | rfl | (rw [List.map_append]; rfl) | (simp [List.map_append]; done)) | exact SV.le.of_eq (by first | rfl | (rw [List.map_append]; rfl) | (simp [List.map_append]; done))) (Slots.cons rfl (by first | exact .refl _ | exact .nilOwn _ _ | exact .nilSl _ | exact .ownSl _ _ _  | exact SV.le.ownEq (by first | rfl | (rw [List.map_append]; rfl) | (simp [List.map_append]; done)) | exact SV.le.of_eq (by first | rfl | (rw [List.map_append]; rfl) | (simp [List.map_append]; done))) (Slots.cons rfl (by first | exact .refl _ | exact .nilOwn _ _ | exact .nilSl _ | exact .ownSl _ _ _  | exact SV.le.ownEq (by first | rfl | (rw [List.map_append]; rfl) | (simp [List.map_append]; done)) | exact SV.le.of_eq (by first | rfl | (rw [List.map_append]; rfl) | (simp [List.map_append]; done))) (Slots.cons rfl (by first | exact .refl _ | exact .nilOwn _ _ | exact .nilSl _ | exact .ownSl _ _ _  | exact SV.le.ownEq (by first | rfl | (rw [List.map_append]; rfl) | (simp [List.map_append]; done)) | exact SV.le.of_eq (by first | rfl | (rw [List.map_append]; rfl) | (simp [List.map_append]; done))) (Slots.cons rfl (by first | exact .refl _ | exact .nilOwn _ _ | exact .nilSl _ | exact .ownSl _ _ _  | exact SV.le.ownEq (by first | rfl | (rw [List.map_append]; rfl) | (simp [List.map_append]; done)) | exact SV.le.of_eq (by first | rfl | (rw [List.map_append]; rfl) | (simp [List.map_append]; done))) (Slots.cons rfl (by first | exact .refl _ | exact .nilOwn _ _ | exact .nilSl _ | exact .ownSl _ _ _  | exact SV.le.ownEq (by first | rfl | (rw [List.map_append]; rfl) | (simp [List.map_append]; done)) | exact SV.le.of_eq (by first | rfl | (rw [List.map_append]; rfl) | (simp [List.map_append]; done))) (Slots.cons rfl (by first | exact .refl _ | exact .nilOwn _ _ | exact .nilSl _ | exact .ownSl _ _ _  | exact SV.le.ownEq (by first | rfl | (rw [List.map_append]; rfl) | (simp [List.map_append]; done)) | exact SV.le.of_eq (by first | rfl | (rw [List.map_append]; rfl) | (simp [List.map_append]; done))) Slots.nil)))))))), (by first | exact List.Sublist.refl _ | exact .cons_cons _ (.cons _ (.refl _)) | exact List.nil_sublist _ | exact .cons _ (.refl _) | exact .cons _ (.cons _ (.refl _)) | exact .cons _ (.cons _ (.cons _ (.refl _))) | exact .cons _ (.cons _ (.cons _ (.cons _ (.refl _)))) | exact .cons_cons _ (List.nil_sublist _))⟩, (by omega), ⟨k + 1, (came.eraseIdx i), out ++ [(⟨4, x, t0, []⟩ : FC)], gone, ext', rfl, rfl, (by omega), (split_some hx hst hi ht0), hce', (by simp; omega), (by omega), (by rw [List.length_eraseIdx]; split <;> omega)⟩⟩
  ·
   have hge : (wentF a b).length ≤ k := by have := of_decide_eq_false hc0; simp at this; omega
   obtain rfl : k = (wentF a b).length := by omega
   refine awp_exit ?_
   refine x_thenE ?_
   refine x_thenE ?_
   refine x_blockE ?_
   refine x_then ?_
   refine awp_seq ?_
   refine awp_region ?_
   refine r_move rfl rfl ?_
   refine r_move rfl rfl ?_
   refine r_append 9 rfl (by first | exact .own _ | exact .nil) rfl (by first | exact .sl _ | exact .own _ _ | exact .nil) TF.sl28 TF.sz50 (by decide) TF.by50 TF.zlen50 (by simp [chunks] <;> omega) (by simp [chunks] <;> omega) rfl ?_
   refine r_assign rfl rfl ?_
   refine awl_nil ?_
   refine x_then ?_
   refine awp_seq ?_
   refine awp_seq ?_
   refine awp_region ?_
   first | (refine r_load1 rfl TF.agg55 rfl ?_) | (refine r_load1b 0 rfl rfl rfl TF.agg55 rfl ?_) | (refine r_load1b 1 rfl rfl rfl TF.agg55 rfl ?_) | (refine r_load1b 2 rfl rfl rfl TF.agg55 rfl ?_)
   refine r_callO hq rfl rfl (.cons (.ev rfl rfl) .nil) (orderN_ok htx hnsa (by omega)) rfl TF.en29 (.cons _ (.cons_cons _ (List.nil_sublist _))) rfl (fun r nobjs hr => ?_)
   obtain ⟨rfl, rfl⟩ := hr
   first | (refine r_lenS rfl rfl TF.sl57 rfl ?_) | (refine r_lenNil rfl TF.sl57 rfl ?_) | (refine r_lenV rfl TF.sl57 rfl ?_)
   refine r_move rfl rfl ?_
   refine awl_nil ?_
   refine x_then ?_
   refine awp_block ?_
   refine awp_loop (fun nn0 S => ∃ k : Nat, S = ⟨111, [(5, .a (.cp [.v (.map (some bx))])), (6, .a (.cp [.v (.map (some by_))])), (8, .a (.v (.slice (some ⟨g2, 0, none⟩) came.length cap))), (9, .own 9 4 (((out ++ gone) ++ ((namesF a).take k).filterMap (chgF a b)).map (FC.csH Cs))), (65, .a (strsA (namesF a))), (66, .a (.v (.int .i64 (((namesF a).map (fun s : ByteArray => [AV.v (.string s)])).length)))), (67, .a (.v (.int .i64 ((k : Int)))))], [⟨g2, true, .box (strsC came ++ ext)⟩, ⟨bx, true, .map (encM Value.string bts mx)⟩, ⟨by_, true, .map (encM Value.string bts my)⟩]⟩ ∧ nn0 = (namesF a).length - k ∧ (k ≤ (namesF a).length)) ((namesF a).length - (0)) ⟨111, [(5, .a (.cp [.v (.map (some bx))])), (6, .a (.cp [.v (.map (some by_))])), (8, .a (.v (.slice (some ⟨g2, 0, none⟩) came.length cap))), (9, .own 9 4 (((out ++ gone) ++ ((namesF a).take (0)).filterMap (chgF a b)).map (FC.csH Cs))), (65, .a (strsA (namesF a))), (66, .a (.v (.int .i64 (((namesF a).map (fun s : ByteArray => [AV.v (.string s)])).length)))), (67, .a (.v (.int .i64 (((0) : Int)))))], [⟨g2, true, .box (strsC came ++ ext)⟩, ⟨bx, true, .map (encM Value.string bts mx)⟩, ⟨by_, true, .map (encM Value.string bts my)⟩]⟩ ⟨rfl, (Slots.cons rfl (by first | exact .refl _ | exact .nilOwn _ _ | exact .nilSl _ | exact .ownSl _ _ _  | exact SV.le.ownEq (by simp [chunks]) | exact SV.le.of_eq (by simp [chunks])) (Slots.cons rfl (by first | exact .refl _ | exact .nilOwn _ _ | exact .nilSl _ | exact .ownSl _ _ _  | exact SV.le.ownEq (by simp [chunks]) | exact SV.le.of_eq (by simp [chunks])) (Slots.cons rfl (by first | exact .refl _ | exact .nilOwn _ _ | exact .nilSl _ | exact .ownSl _ _ _  | exact SV.le.ownEq (by simp [chunks]) | exact SV.le.of_eq (by simp [chunks])) (Slots.cons rfl (by first | exact .refl _ | exact .nilOwn _ _ | exact .nilSl _ | exact .ownSl _ _ _  | exact SV.le.ownEq (by simp [chunks]) | exact SV.le.of_eq (by simp [chunks])) (Slots.cons rfl (by first | exact .refl _ | exact .nilOwn _ _ | exact .nilSl _ | exact .ownSl _ _ _  | exact SV.le.ownEq (by simp [chunks]) | exact SV.le.of_eq (by simp [chunks])) (Slots.cons rfl (by first | exact .refl _ | exact .nilOwn _ _ | exact .nilSl _ | exact .ownSl _ _ _  | exact SV.le.ownEq (by simp [chunks]) | exact SV.le.of_eq (by simp [chunks])) (Slots.cons rfl (by first | exact .refl _ | exact .nilOwn _ _ | exact .nilSl _ | exact .ownSl _ _ _  | exact SV.le.ownEq (by simp [chunks]) | exact SV.le.of_eq (by simp [chunks])) Slots.nil))))))), (by first | exact List.Sublist.refl _ | exact .cons_cons _ (.cons _ (.refl _)) | exact List.nil_sublist _ | exact .cons _ (.refl _) | exact .cons _ (.cons _ (.refl _)) | exact .cons _ (.cons _ (.cons _ (.refl _))) | exact .cons _ (.cons _ (.cons _ (.cons _ (.refl _)))) | exact .cons_cons _ (List.nil_sublist _))⟩ ⟨0, rfl, rfl, Nat.zero_le _⟩ ?_
   rintro nn0 _ ⟨k, rfl, rfl, hk1⟩
   refine awp_seq ?_
   refine awp_region ?_
   refine r_cmp rfl rfl rfl rfl ?_
   refine awl_nil ?_
   refine x_then ?_
   refine awp_seq ?_
   refine awp_cond rfl (fun hc2 => ?_) (fun hc2 => ?_)
   ·
    have hltx : k < (namesF a).length := by have := of_decide_eq_true hc2; simpa using this
    obtain ⟨x, hx⟩ := get_lt hltx
    have hf1 : (((namesF a).take k).filterMap (chgF a b)).length ≤ k := Nat.le_trans (List.length_filterMap_le _ _) (by simp; omega)
    refine awp_skip ?_
    refine x_then ?_
    refine awp_seq ?_
    refine awp_block ?_
    refine awp_seq ?_
    refine awp_region ?_
    refine r_index rfl rfl rfl TF.sl57 TF.sz9 (by omega) (get_map hx) rfl ?_
    first | (refine r_load1 rfl TF.agg9 rfl ?_) | (refine r_load1b 0 rfl rfl rfl TF.agg9 rfl ?_) | (refine r_load1b 1 rfl rfl rfl TF.agg9 rfl ?_) | (refine r_load1b 2 rfl rfl rfl TF.agg9 rfl ?_)
    refine r_assign rfl rfl ?_
    refine awl_nil ?_
    refine x_then ?_
    refine awp_seq ?_
    refine awp_region ?_
    first | (refine r_load1 rfl TF.agg55 rfl ?_) | (refine r_load1b 0 rfl rfl rfl TF.agg55 rfl ?_) | (refine r_load1b 1 rfl rfl rfl TF.agg55 rfl ?_) | (refine r_load1b 2 rfl rfl rfl TF.agg55 rfl ?_)
    refine r_move rfl rfl ?_
    first | (refine r_lookupOk 0 (keyEnc_string TF.un9) (ev := bts) [] rfl rfl rfl TF.map55 TF.zavS rfl ?_) | (refine r_lookupOk 1 (keyEnc_string TF.un9) (ev := bts) [] rfl rfl rfl TF.map55 TF.zavS rfl ?_) | (refine r_lookupOk 2 (keyEnc_string TF.un9) (ev := bts) [] rfl rfl rfl TF.map55 TF.zavS rfl ?_)
    refine r_move rfl rfl ?_
    refine r_extract rfl rfl rfl ?_
    refine r_extract rfl rfl rfl ?_
    refine r_assign rfl rfl ?_
    refine r_assign rfl rfl ?_
    refine awl_nil ?_
    refine x_then ?_
    refine awp_seq ?_
    refine awp_region ?_
    refine r_move rfl rfl ?_
    refine r_move rfl rfl ?_
    refine g_cases (t' := 78) rfl (fun hg78 => ?_) (fun hg78 => ?_)
    ·
     obtain ⟨d, hdq⟩ : ∃ d, mget my x = some d := Option.isSome_iff_exists.1 hg78
     have hq2 : lookF b x = some d := by rw [← hty.get, hdq]
     refine g_run rfl rfl hg78 ?_
     first | (refine r_load1 rfl TF.agg55 rfl ?_) | (refine r_load1b 0 rfl rfl rfl TF.agg55 rfl ?_) | (refine r_load1b 1 rfl rfl rfl TF.agg55 rfl ?_) | (refine r_load1b 2 rfl rfl rfl TF.agg55 rfl ?_)
     refine g_run rfl rfl hg78 ?_
     refine r_move rfl rfl ?_
     refine g_run rfl rfl hg78 ?_
     first | (refine r_lookup 0 (keyEnc_string TF.un9) (ev := bts) [] rfl rfl rfl TF.map55 TF.zavS rfl ?_) | (refine r_lookup 1 (keyEnc_string TF.un9) (ev := bts) [] rfl rfl rfl TF.map55 TF.zavS rfl ?_) | (refine r_lookup 2 (keyEnc_string TF.un9) (ev := bts) [] rfl rfl rfl TF.map55 TF.zavS rfl ?_)
     refine g_run rfl rfl hg78 ?_
     refine r_move rfl rfl ?_
     refine g_run rfl rfl hg78 ?_
     refine r_call0 hq rfl rfl (.cons (.ev rfl rfl) (.cons (.ev rfl rfl) .nil)) (equal_ok _ _) rfl TF.en27 rfl (fun r hr => ?_)
     obtain rfl := hr
     refine g_run rfl rfl hg78 ?_
     refine r_not rfl rfl ?_
     refine r_pickT rfl hg78 rfl rfl ?_
     refine awl_nil ?_
     refine x_then ?_
     refine awp_cond rfl (fun hc3 => ?_) (fun hc3 => ?_)
     ·
      rw [hdq] at hc3 ⊢
      have hne : decide ((lookF a x).getD [] = d) = false := by rw [← htx.get]; simpa using hc3
      have ht : chgF a b x = some ⟨3, x, E0, d⟩ := by rw [chgF, hq2]; simp only [hne, cond_false]
      have hdl : d.length ≤ 1000000 := by have := look_len hdb x; rw [hq2] at this; simpa using this
      refine awp_region ?_
      refine r_move rfl rfl ?_
      refine r_move rfl rfl ?_
      refine r_move rfl rfl ?_
      refine r_callH hcs hq rfl rfl (.cons (.ev rfl rfl) .nil) (cloneH_ok d hdl) TF.en30 rfl ?_
      refine r_build (parts := [(0, .const ((Go.Value.int Go.IntKind.i64 3))), (1, .tmp 87), (3, .tmp 89)]) rfl TF.pl50 (TF.zeroHC Cs) rfl rfl rfl ?_
      refine r_lit 91 (parts := [(0, .tmp 90)]) rfl TF.sl28 TF.sz50 TF.zraw50 rfl rfl rfl rfl rfl rfl rfl ?_
      refine r_append 9 rfl (by first | exact .own _ | exact .nil) rfl (by first | exact .sl _ | exact .own _ _ | exact .nil) TF.sl28 TF.sz50 (by decide) TF.by50 TF.zlen50 (by simp [chunks] <;> omega) (by simp [chunks] <;> omega) rfl ?_
      refine r_assign rfl rfl ?_
      refine awl_nil ?_
      refine x_block ?_
      refine x_then ?_
      refine awp_region ?_
      refine r_ari _ rfl rfl rfl (wrap_id (by first | omega | (simp; omega))) rfl ?_
      refine r_move rfl rfl ?_
      refine awl_nil ?_
      refine x_then ?_
      have et := fmS_step (f := chgF a b) hx
      rw [ht] at et
      simp only [Option.toList_some, Option.toList_none, List.append_nil] at et
      refine ⟨(namesF a).length - (k + 1), ⟨111, [(5, .a (.cp [.v (.map (some bx))])), (6, .a (.cp [.v (.map (some by_))])), (8, .a (.v (.slice (some ⟨g2, 0, none⟩) came.length cap))), (9, .own 9 4 (((out ++ gone) ++ ((namesF a).take (k + 1)).filterMap (chgF a b)).map (FC.csH Cs))), (65, .a (strsA (namesF a))), (66, .a (.v (.int .i64 (((namesF a).map (fun s : ByteArray => [AV.v (.string s)])).length)))), (67, .a (.v (.int .i64 (((k + 1) : Int)))))], [⟨g2, true, .box (strsC came ++ ext)⟩, ⟨bx, true, .map (encM Value.string bts mx)⟩, ⟨by_, true, .map (encM Value.string bts my)⟩]⟩, ⟨rfl, (Slots.cons rfl (by first | exact .refl _ | exact .nilOwn _ _ | exact .nilSl _ | exact .ownSl _ _ _  | exact SV.le.ownEq (by first | rfl | (rw [et, ← List.append_assoc (out ++ gone), List.map_append (l₁ := ((out ++ gone) ++ ((namesF a).take k).filterMap (chgF a b)))]; rfl) | (rw [et]; first | done | rfl)) | exact SV.le.of_eq (by first | rfl | (rw [et, ← List.append_assoc (out ++ gone), List.map_append (l₁ := ((out ++ gone) ++ ((namesF a).take k).filterMap (chgF a b)))]; rfl) | (rw [et]; first | done | rfl))) (Slots.cons rfl (by first | exact .refl _ | exact .nilOwn _ _ | exact .nilSl _ | exact .ownSl _ _ _  | exact SV.le.ownEq (by first | rfl | (rw [et, ← List.append_assoc (out ++ gone), List.map_append (l₁ := ((out ++ gone) ++ ((namesF a).take k).filterMap (chgF a b)))]; rfl) | (rw [et]; first | done | rfl)) | exact SV.le.of_eq (by first | rfl | (rw [et, ← List.append_assoc (out ++ gone), List.map_append (l₁ := ((out ++ gone) ++ ((namesF a).take k).filterMap (chgF a b)))]; rfl) | (rw [et]; first | done | rfl))) (Slots.cons rfl (by first | exact .refl _ | exact .nilOwn _ _ | exact .nilSl _ | exact .ownSl _ _ _  | exact SV.le.ownEq (by first | rfl | (rw [et, ← List.append_assoc (out ++ gone), List.map_append (l₁ := ((out ++ gone) ++ ((namesF a).take k).filterMap (chgF a b)))]; rfl) | (rw [et]; first | done | rfl)) | exact SV.le.of_eq (by first | rfl | (rw [et, ← List.append_assoc (out ++ gone), List.map_append (l₁ := ((out ++ gone) ++ ((namesF a).take k).filterMap (chgF a b)))]; rfl) | (rw [et]; first | done | rfl))) (Slots.cons rfl (by first | exact .refl _ | exact .nilOwn _ _ | exact .nilSl _ | exact .ownSl _ _ _  | exact SV.le.ownEq (by first | rfl | (rw [et, ← List.append_assoc (out ++ gone), List.map_append (l₁ := ((out ++ gone) ++ ((namesF a).take k).filterMap (chgF a b)))]; rfl) | (rw [et]; first | done | rfl)) | exact SV.le.of_eq (by first | rfl | (rw [et, ← List.append_assoc (out ++ gone), List.map_append (l₁ := ((out ++ gone) ++ ((namesF a).take k).filterMap (chgF a b)))]; rfl) | (rw [et]; first | done | rfl))) (Slots.cons rfl (by first | exact .refl _ | exact .nilOwn _ _ | exact .nilSl _ | exact .ownSl _ _ _  | exact SV.le.ownEq (by first | rfl | (rw [et, ← List.append_assoc (out ++ gone), List.map_append (l₁ := ((out ++ gone) ++ ((namesF a).take k).filterMap (chgF a b)))]; rfl) | (rw [et]; first | done | rfl)) | exact SV.le.of_eq (by first | rfl | (rw [et, ← List.append_assoc (out ++ gone), List.map_append (l₁ := ((out ++ gone) ++ ((namesF a).take k).filterMap (chgF a b)))]; rfl) | (rw [et]; first | done | rfl))) (Slots.cons rfl (by first | exact .refl _ | exact .nilOwn _ _ | exact .nilSl _ | exact .ownSl _ _ _  | exact SV.le.ownEq (by first | rfl | (rw [et, ← List.append_assoc (out ++ gone), List.map_append (l₁ := ((out ++ gone) ++ ((namesF a).take k).filterMap (chgF a b)))]; rfl) | (rw [et]; first | done | rfl)) | exact SV.le.of_eq (by first | rfl | (rw [et, ← List.append_assoc (out ++ gone), List.map_append (l₁ := ((out ++ gone) ++ ((namesF a).take k).filterMap (chgF a b)))]; rfl) | (rw [et]; first | done | rfl))) (Slots.cons rfl (by first | exact .refl _ | exact .nilOwn _ _ | exact .nilSl _ | exact .ownSl _ _ _  | exact SV.le.ownEq (by first | rfl | (rw [et, ← List.append_assoc (out ++ gone), List.map_append (l₁ := ((out ++ gone) ++ ((namesF a).take k).filterMap (chgF a b)))]; rfl) | (rw [et]; first | done | rfl)) | exact SV.le.of_eq (by first | rfl | (rw [et, ← List.append_assoc (out ++ gone), List.map_append (l₁ := ((out ++ gone) ++ ((namesF a).take k).filterMap (chgF a b)))]; rfl) | (rw [et]; first | done | rfl))) Slots.nil))))))), (by first | exact List.Sublist.refl _ | exact .cons_cons _ (.cons _ (.refl _)) | exact List.nil_sublist _ | exact .cons _ (.refl _) | exact .cons _ (.cons _ (.refl _)) | exact .cons _ (.cons _ (.cons _ (.refl _))) | exact .cons _ (.cons _ (.cons _ (.cons _ (.refl _)))) | exact .cons_cons _ (List.nil_sublist _))⟩, (by omega), ⟨k + 1, rfl, rfl, (by omega)⟩⟩
     ·
      rw [hdq] at hc3
      have hne : decide ((lookF a x).getD [] = d) = true := by rw [← htx.get]; simpa using hc3
      have ht : chgF a b x = none := by rw [chgF, hq2]; simp only [hne, cond_true]
      refine awp_skip ?_
      refine x_block ?_
      refine x_then ?_
      refine awp_region ?_
      refine r_ari _ rfl rfl rfl (wrap_id (by first | omega | (simp; omega))) rfl ?_
      refine r_move rfl rfl ?_
      refine awl_nil ?_
      refine x_then ?_
      have et := fmS_step (f := chgF a b) hx
      rw [ht] at et
      simp only [Option.toList_some, Option.toList_none, List.append_nil] at et
      refine ⟨(namesF a).length - (k + 1), ⟨111, [(5, .a (.cp [.v (.map (some bx))])), (6, .a (.cp [.v (.map (some by_))])), (8, .a (.v (.slice (some ⟨g2, 0, none⟩) came.length cap))), (9, .own 9 4 (((out ++ gone) ++ ((namesF a).take (k + 1)).filterMap (chgF a b)).map (FC.csH Cs))), (65, .a (strsA (namesF a))), (66, .a (.v (.int .i64 (((namesF a).map (fun s : ByteArray => [AV.v (.string s)])).length)))), (67, .a (.v (.int .i64 (((k + 1) : Int)))))], [⟨g2, true, .box (strsC came ++ ext)⟩, ⟨bx, true, .map (encM Value.string bts mx)⟩, ⟨by_, true, .map (encM Value.string bts my)⟩]⟩, ⟨rfl, (Slots.cons rfl (by first | exact .refl _ | exact .nilOwn _ _ | exact .nilSl _ | exact .ownSl _ _ _  | exact SV.le.ownEq (by first | rfl | (rw [et, ← List.append_assoc (out ++ gone), List.map_append (l₁ := ((out ++ gone) ++ ((namesF a).take k).filterMap (chgF a b)))]; rfl) | (rw [et]; first | done | rfl)) | exact SV.le.of_eq (by first | rfl | (rw [et, ← List.append_assoc (out ++ gone), List.map_append (l₁ := ((out ++ gone) ++ ((namesF a).take k).filterMap (chgF a b)))]; rfl) | (rw [et]; first | done | rfl))) (Slots.cons rfl (by first | exact .refl _ | exact .nilOwn _ _ | exact .nilSl _ | exact .ownSl _ _ _  | exact SV.le.ownEq (by first | rfl | (rw [et, ← List.append_assoc (out ++ gone), List.map_append (l₁ := ((out ++ gone) ++ ((namesF a).take k).filterMap (chgF a b)))]; rfl) | (rw [et]; first | done | rfl)) | exact SV.le.of_eq (by first | rfl | (rw [et, ← List.append_assoc (out ++ gone), List.map_append (l₁ := ((out ++ gone) ++ ((namesF a).take k).filterMap (chgF a b)))]; rfl) | (rw [et]; first | done | rfl))) (Slots.cons rfl (by first | exact .refl _ | exact .nilOwn _ _ | exact .nilSl _ | exact .ownSl _ _ _  | exact SV.le.ownEq (by first | rfl | (rw [et, ← List.append_assoc (out ++ gone), List.map_append (l₁ := ((out ++ gone) ++ ((namesF a).take k).filterMap (chgF a b)))]; rfl) | (rw [et]; first | done | rfl)) | exact SV.le.of_eq (by first | rfl | (rw [et, ← List.append_assoc (out ++ gone), List.map_append (l₁ := ((out ++ gone) ++ ((namesF a).take k).filterMap (chgF a b)))]; rfl) | (rw [et]; first | done | rfl))) (Slots.cons rfl (by first | exact .refl _ | exact .nilOwn _ _ | exact .nilSl _ | exact .ownSl _ _ _  | exact SV.le.ownEq (by first | rfl | (rw [et, ← List.append_assoc (out ++ gone), List.map_append (l₁ := ((out ++ gone) ++ ((namesF a).take k).filterMap (chgF a b)))]; rfl) | (rw [et]; first | done | rfl)) | exact SV.le.of_eq (by first | rfl | (rw [et, ← List.append_assoc (out ++ gone), List.map_append (l₁ := ((out ++ gone) ++ ((namesF a).take k).filterMap (chgF a b)))]; rfl) | (rw [et]; first | done | rfl))) (Slots.cons rfl (by first | exact .refl _ | exact .nilOwn _ _ | exact .nilSl _ | exact .ownSl _ _ _  | exact SV.le.ownEq (by first | rfl | (rw [et, ← List.append_assoc (out ++ gone), List.map_append (l₁ := ((out ++ gone) ++ ((namesF a).take k).filterMap (chgF a b)))]; rfl) | (rw [et]; first | done | rfl)) | exact SV.le.of_eq (by first | rfl | (rw [et, ← List.append_assoc (out ++ gone), List.map_append (l₁ := ((out ++ gone) ++ ((namesF a).take k).filterMap (chgF a b)))]; rfl) | (rw [et]; first | done | rfl))) (Slots.cons rfl (by first | exact .refl _ | exact .nilOwn _ _ | exact .nilSl _ | exact .ownSl _ _ _  | exact SV.le.ownEq (by first | rfl | (rw [et, ← List.append_assoc (out ++ gone), List.map_append (l₁ := ((out ++ gone) ++ ((namesF a).take k).filterMap (chgF a b)))]; rfl) | (rw [et]; first | done | rfl)) | exact SV.le.of_eq (by first | rfl | (rw [et, ← List.append_assoc (out ++ gone), List.map_append (l₁ := ((out ++ gone) ++ ((namesF a).take k).filterMap (chgF a b)))]; rfl) | (rw [et]; first | done | rfl))) (Slots.cons rfl (by first | exact .refl _ | exact .nilOwn _ _ | exact .nilSl _ | exact .ownSl _ _ _  | exact SV.le.ownEq (by first | rfl | (rw [et, ← List.append_assoc (out ++ gone), List.map_append (l₁ := ((out ++ gone) ++ ((namesF a).take k).filterMap (chgF a b)))]; rfl) | (rw [et]; first | done | rfl)) | exact SV.le.of_eq (by first | rfl | (rw [et, ← List.append_assoc (out ++ gone), List.map_append (l₁ := ((out ++ gone) ++ ((namesF a).take k).filterMap (chgF a b)))]; rfl) | (rw [et]; first | done | rfl))) Slots.nil))))))), (by first | exact List.Sublist.refl _ | exact .cons_cons _ (.cons _ (.refl _)) | exact List.nil_sublist _ | exact .cons _ (.refl _) | exact .cons _ (.cons _ (.refl _)) | exact .cons _ (.cons _ (.cons _ (.refl _))) | exact .cons _ (.cons _ (.cons _ (.cons _ (.refl _)))) | exact .cons_cons _ (List.nil_sublist _))⟩, (by omega), ⟨k + 1, rfl, rfl, (by omega)⟩⟩
    ·
     have hq2 : lookF b x = none := by
      rw [← hty.get]
      cases h : mget my x with
      | none => rfl
      | some d => rw [h] at hg78; cases hg78
     have ht : chgF a b x = none := by rw [chgF, hq2]
     refine g_skip rfl rfl hg78 rfl ?_
     refine g_skip rfl rfl hg78 rfl ?_
     refine g_skip rfl rfl hg78 rfl ?_
     refine g_skip rfl rfl hg78 rfl ?_
     refine g_skip rfl rfl hg78 rfl ?_
     refine g_skip rfl rfl hg78 rfl ?_
     refine r_pickF rfl hg78 rfl rfl ?_
     refine awl_nil ?_
     refine x_then ?_
     refine awp_condF rfl ?_
     refine awp_skip ?_
     refine x_block ?_
     refine x_then ?_
     refine awp_region ?_
     refine r_ari _ rfl rfl rfl (wrap_id (by first | omega | (simp; omega))) rfl ?_
     refine r_move rfl rfl ?_
     refine awl_nil ?_
     refine x_then ?_
     have et := fmS_step (f := chgF a b) hx
     rw [ht] at et
     simp only [Option.toList_some, Option.toList_none, List.append_nil] at et
     refine ⟨(namesF a).length - (k + 1), ⟨111, [(5, .a (.cp [.v (.map (some bx))])), (6, .a (.cp [.v (.map (some by_))])), (8, .a (.v (.slice (some ⟨g2, 0, none⟩) came.length cap))), (9, .own 9 4 (((out ++ gone) ++ ((namesF a).take (k + 1)).filterMap (chgF a b)).map (FC.csH Cs))), (65, .a (strsA (namesF a))), (66, .a (.v (.int .i64 (((namesF a).map (fun s : ByteArray => [AV.v (.string s)])).length)))), (67, .a (.v (.int .i64 (((k + 1) : Int)))))], [⟨g2, true, .box (strsC came ++ ext)⟩, ⟨bx, true, .map (encM Value.string bts mx)⟩, ⟨by_, true, .map (encM Value.string bts my)⟩]⟩, ⟨rfl, (Slots.cons rfl (by first | exact .refl _ | exact .nilOwn _ _ | exact .nilSl _ | exact .ownSl _ _ _  | exact SV.le.ownEq (by first | rfl | (rw [et, ← List.append_assoc (out ++ gone), List.map_append (l₁ := ((out ++ gone) ++ ((namesF a).take k).filterMap (chgF a b)))]; rfl) | (rw [et]; first | done | rfl)) | exact SV.le.of_eq (by first | rfl | (rw [et, ← List.append_assoc (out ++ gone), List.map_append (l₁ := ((out ++ gone) ++ ((namesF a).take k).filterMap (chgF a b)))]; rfl) | (rw [et]; first | done | rfl))) (Slots.cons rfl (by first | exact .refl _ | exact .nilOwn _ _ | exact .nilSl _ | exact .ownSl _ _ _  | exact SV.le.ownEq (by first | rfl | (rw [et, ← List.append_assoc (out ++ gone), List.map_append (l₁ := ((out ++ gone) ++ ((namesF a).take k).filterMap (chgF a b)))]; rfl) | (rw [et]; first | done | rfl)) | exact SV.le.of_eq (by first | rfl | (rw [et, ← List.append_assoc (out ++ gone), List.map_append (l₁ := ((out ++ gone) ++ ((namesF a).take k).filterMap (chgF a b)))]; rfl) | (rw [et]; first | done | rfl))) (Slots.cons rfl (by first | exact .refl _ | exact .nilOwn _ _ | exact .nilSl _ | exact .ownSl _ _ _  | exact SV.le.ownEq (by first | rfl | (rw [et, ← List.append_assoc (out ++ gone), List.map_append (l₁ := ((out ++ gone) ++ ((namesF a).take k).filterMap (chgF a b)))]; rfl) | (rw [et]; first | done | rfl)) | exact SV.le.of_eq (by first | rfl | (rw [et, ← List.append_assoc (out ++ gone), List.map_append (l₁ := ((out ++ gone) ++ ((namesF a).take k).filterMap (chgF a b)))]; rfl) | (rw [et]; first | done | rfl))) (Slots.cons rfl (by first | exact .refl _ | exact .nilOwn _ _ | exact .nilSl _ | exact .ownSl _ _ _  | exact SV.le.ownEq (by first | rfl | (rw [et, ← List.append_assoc (out ++ gone), List.map_append (l₁ := ((out ++ gone) ++ ((namesF a).take k).filterMap (chgF a b)))]; rfl) | (rw [et]; first | done | rfl)) | exact SV.le.of_eq (by first | rfl | (rw [et, ← List.append_assoc (out ++ gone), List.map_append (l₁ := ((out ++ gone) ++ ((namesF a).take k).filterMap (chgF a b)))]; rfl) | (rw [et]; first | done | rfl))) (Slots.cons rfl (by first | exact .refl _ | exact .nilOwn _ _ | exact .nilSl _ | exact .ownSl _ _ _  | exact SV.le.ownEq (by first | rfl | (rw [et, ← List.append_assoc (out ++ gone), List.map_append (l₁ := ((out ++ gone) ++ ((namesF a).take k).filterMap (chgF a b)))]; rfl) | (rw [et]; first | done | rfl)) | exact SV.le.of_eq (by first | rfl | (rw [et, ← List.append_assoc (out ++ gone), List.map_append (l₁ := ((out ++ gone) ++ ((namesF a).take k).filterMap (chgF a b)))]; rfl) | (rw [et]; first | done | rfl))) (Slots.cons rfl (by first | exact .refl _ | exact .nilOwn _ _ | exact .nilSl _ | exact .ownSl _ _ _  | exact SV.le.ownEq (by first | rfl | (rw [et, ← List.append_assoc (out ++ gone), List.map_append (l₁ := ((out ++ gone) ++ ((namesF a).take k).filterMap (chgF a b)))]; rfl) | (rw [et]; first | done | rfl)) | exact SV.le.of_eq (by first | rfl | (rw [et, ← List.append_assoc (out ++ gone), List.map_append (l₁ := ((out ++ gone) ++ ((namesF a).take k).filterMap (chgF a b)))]; rfl) | (rw [et]; first | done | rfl))) (Slots.cons rfl (by first | exact .refl _ | exact .nilOwn _ _ | exact .nilSl _ | exact .ownSl _ _ _  | exact SV.le.ownEq (by first | rfl | (rw [et, ← List.append_assoc (out ++ gone), List.map_append (l₁ := ((out ++ gone) ++ ((namesF a).take k).filterMap (chgF a b)))]; rfl) | (rw [et]; first | done | rfl)) | exact SV.le.of_eq (by first | rfl | (rw [et, ← List.append_assoc (out ++ gone), List.map_append (l₁ := ((out ++ gone) ++ ((namesF a).take k).filterMap (chgF a b)))]; rfl) | (rw [et]; first | done | rfl))) Slots.nil))))))), (by first | exact List.Sublist.refl _ | exact .cons_cons _ (.cons _ (.refl _)) | exact List.nil_sublist _ | exact .cons _ (.refl _) | exact .cons _ (.cons _ (.refl _)) | exact .cons _ (.cons _ (.cons _ (.refl _))) | exact .cons _ (.cons _ (.cons _ (.cons _ (.refl _)))) | exact .cons_cons _ (List.nil_sublist _))⟩, (by omega), ⟨k + 1, rfl, rfl, (by omega)⟩⟩
   ·
    have hge : (namesF a).length ≤ k := by have := of_decide_eq_false hc2; simp at this; omega
    have hkl : (namesF a).take k = namesF a := List.take_of_length_le hge
    rw [hkl]
    have hf2 : ((namesF a).filterMap (chgF a b)).length ≤ (namesF a).length := List.length_filterMap_le _ _
    refine awp_exit ?_
    refine x_thenE ?_
    refine x_thenE ?_
    refine x_blockE ?_
    refine x_then ?_
    refine awp_seq ?_
    refine awp_seq ?_
    refine awp_region ?_
    refine r_move rfl rfl ?_
    first | (refine r_lenS rfl rfl TF.sl57 rfl ?_) | (refine r_lenNil rfl TF.sl57 rfl ?_) | (refine r_lenV rfl TF.sl57 rfl ?_)
    refine r_move rfl rfl ?_
    refine awl_nil ?_
    refine x_then ?_
    refine awp_block ?_
    refine awp_loop (fun nn0 S => ∃ k : Nat, S = ⟨111, [(6, .a (.cp [.v (.map (some by_))])), (9, .own 9 4 (((out ++ gone) ++ (namesF a).filterMap (chgF a b) ++ (came.take k).map (addF b)).map (FC.csH Cs))), (94, .a (.v (.slice (some ⟨g2, 0, none⟩) came.length cap))), (95, .a (.v (.int .i64 (came.length)))), (96, .a (.v (.int .i64 ((k : Int)))))], [⟨g2, true, .box (strsC came ++ ext)⟩, ⟨bx, true, .map (encM Value.string bts mx)⟩, ⟨by_, true, .map (encM Value.string bts my)⟩]⟩ ∧ nn0 = came.length - k ∧ (k ≤ came.length)) (came.length - (0)) ⟨111, [(6, .a (.cp [.v (.map (some by_))])), (9, .own 9 4 (((out ++ gone) ++ (namesF a).filterMap (chgF a b) ++ (came.take (0)).map (addF b)).map (FC.csH Cs))), (94, .a (.v (.slice (some ⟨g2, 0, none⟩) came.length cap))), (95, .a (.v (.int .i64 (came.length)))), (96, .a (.v (.int .i64 (((0) : Int)))))], [⟨g2, true, .box (strsC came ++ ext)⟩, ⟨bx, true, .map (encM Value.string bts mx)⟩, ⟨by_, true, .map (encM Value.string bts my)⟩]⟩ ⟨rfl, (Slots.cons rfl (by first | exact .refl _ | exact .nilOwn _ _ | exact .nilSl _ | exact .ownSl _ _ _  | exact SV.le.ownEq (by simp) | exact SV.le.of_eq (by simp)) (Slots.cons rfl (by first | exact .refl _ | exact .nilOwn _ _ | exact .nilSl _ | exact .ownSl _ _ _  | exact SV.le.ownEq (by simp) | exact SV.le.of_eq (by simp)) (Slots.cons rfl (by first | exact .refl _ | exact .nilOwn _ _ | exact .nilSl _ | exact .ownSl _ _ _  | exact SV.le.ownEq (by simp) | exact SV.le.of_eq (by simp)) (Slots.cons rfl (by first | exact .refl _ | exact .nilOwn _ _ | exact .nilSl _ | exact .ownSl _ _ _  | exact SV.le.ownEq (by simp) | exact SV.le.of_eq (by simp)) (Slots.cons rfl (by first | exact .refl _ | exact .nilOwn _ _ | exact .nilSl _ | exact .ownSl _ _ _  | exact SV.le.ownEq (by simp) | exact SV.le.of_eq (by simp)) Slots.nil))))), (by first | exact List.Sublist.refl _ | exact .cons_cons _ (.cons _ (.refl _)) | exact List.nil_sublist _ | exact .cons _ (.refl _) | exact .cons _ (.cons _ (.refl _)) | exact .cons _ (.cons _ (.cons _ (.refl _))) | exact .cons _ (.cons _ (.cons _ (.cons _ (.refl _)))) | exact .cons_cons _ (List.nil_sublist _))⟩ ⟨0, rfl, rfl, Nat.zero_le _⟩ ?_
    rintro nn0 _ ⟨k, rfl, rfl, hk2⟩
    refine awp_seq ?_
    refine awp_region ?_
    refine r_cmp rfl rfl rfl rfl ?_
    refine awl_nil ?_
    refine x_then ?_
    refine awp_seq ?_
    refine awp_cond rfl (fun hc4 => ?_) (fun hc4 => ?_)
    ·
     have hltx : k < came.length := by have := of_decide_eq_true hc4; simpa using this
     obtain ⟨x, hx⟩ := get_lt hltx
     refine awp_skip ?_
     refine x_then ?_
     refine awp_seq ?_
     refine awp_block ?_
     refine awp_seq ?_
     refine awp_region ?_
     refine r_indexV rfl rfl TF.sl57 TF.sz9 (by omega) (by omega) rfl ?_
     refine r_load1b 0 rfl rfl (str_at hx) TF.agg9 rfl ?_
     refine r_assign rfl rfl ?_
     refine awl_nil ?_
     refine x_then ?_
     refine awp_region ?_
     refine r_move rfl rfl ?_
     refine r_move rfl rfl ?_
     first | (refine r_load1 rfl TF.agg55 rfl ?_) | (refine r_load1b 0 rfl rfl rfl TF.agg55 rfl ?_) | (refine r_load1b 1 rfl rfl rfl TF.agg55 rfl ?_) | (refine r_load1b 2 rfl rfl rfl TF.agg55 rfl ?_)
     refine r_move rfl rfl ?_
     first | (refine r_lookup 0 (keyEnc_string TF.un9) (ev := bts) [] rfl rfl rfl TF.map55 TF.zavS rfl ?_) | (refine r_lookup 1 (keyEnc_string TF.un9) (ev := bts) [] rfl rfl rfl TF.map55 TF.zavS rfl ?_) | (refine r_lookup 2 (keyEnc_string TF.un9) (ev := bts) [] rfl rfl rfl TF.map55 TF.zavS rfl ?_)
     refine r_callH hcs hq rfl rfl (.cons (.ev rfl rfl) .nil) (cloneH_ok _ (by rw [hty.get]; exact look_len hdb x)) TF.en30 rfl ?_
     refine r_build (parts := [(0, .const ((Go.Value.int Go.IntKind.i64 1))), (1, .tmp 101), (3, .tmp 105)]) rfl TF.pl50 (TF.zeroHC Cs) rfl rfl rfl ?_
     refine r_lit 107 (parts := [(0, .tmp 106)]) rfl TF.sl28 TF.sz50 TF.zraw50 rfl rfl rfl rfl rfl rfl rfl ?_
     refine r_append 9 rfl (by first | exact .own _ | exact .nil) rfl (by first | exact .sl _ | exact .own _ _ | exact .nil) TF.sl28 TF.sz50 (by decide) TF.by50 TF.zlen50 (by simp [chunks] <;> omega) (by simp [chunks] <;> omega) rfl ?_
     refine r_assign rfl rfl ?_
     refine awl_nil ?_
     refine x_block ?_
     refine x_then ?_
     refine awp_region ?_
     refine r_ari _ rfl rfl rfl (wrap_id (by first | omega | (simp; omega))) rfl ?_
     refine r_move rfl rfl ?_
     refine awl_nil ?_
     refine x_then ?_
     have et : (((out ++ gone) ++ (namesF a).filterMap (chgF a b) ++ (came.take (k + 1)).map (addF b))).map (FC.csH Cs) = (((out ++ gone) ++ (namesF a).filterMap (chgF a b) ++ (came.take k).map (addF b))).map (FC.csH Cs) ++ [[.v (.int .i64 1), .v (.string x), .v (.string E0), hiB Cs ((mget my x).getD [])]] := by rw [hty.get, map_take hx, ← List.append_assoc, List.map_append]; rfl
     refine ⟨came.length - (k + 1), ⟨111, [(6, .a (.cp [.v (.map (some by_))])), (9, .own 9 4 (((out ++ gone) ++ (namesF a).filterMap (chgF a b) ++ (came.take (k + 1)).map (addF b)).map (FC.csH Cs))), (94, .a (.v (.slice (some ⟨g2, 0, none⟩) came.length cap))), (95, .a (.v (.int .i64 (came.length)))), (96, .a (.v (.int .i64 (((k + 1) : Int)))))], [⟨g2, true, .box (strsC came ++ ext)⟩, ⟨bx, true, .map (encM Value.string bts mx)⟩, ⟨by_, true, .map (encM Value.string bts my)⟩]⟩, ⟨rfl, (Slots.cons rfl (by first | exact .refl _ | exact .nilOwn _ _ | exact .nilSl _ | exact .ownSl _ _ _  | exact SV.le.ownEq (by first | rfl | (rw [et]; rfl)) | exact SV.le.of_eq (by first | rfl | (rw [et]; rfl))) (Slots.cons rfl (by first | exact .refl _ | exact .nilOwn _ _ | exact .nilSl _ | exact .ownSl _ _ _  | exact SV.le.ownEq (by first | rfl | (rw [et]; rfl)) | exact SV.le.of_eq (by first | rfl | (rw [et]; rfl))) (Slots.cons rfl (by first | exact .refl _ | exact .nilOwn _ _ | exact .nilSl _ | exact .ownSl _ _ _  | exact SV.le.ownEq (by first | rfl | (rw [et]; rfl)) | exact SV.le.of_eq (by first | rfl | (rw [et]; rfl))) (Slots.cons rfl (by first | exact .refl _ | exact .nilOwn _ _ | exact .nilSl _ | exact .ownSl _ _ _  | exact SV.le.ownEq (by first | rfl | (rw [et]; rfl)) | exact SV.le.of_eq (by first | rfl | (rw [et]; rfl))) (Slots.cons rfl (by first | exact .refl _ | exact .nilOwn _ _ | exact .nilSl _ | exact .ownSl _ _ _  | exact SV.le.ownEq (by first | rfl | (rw [et]; rfl)) | exact SV.le.of_eq (by first | rfl | (rw [et]; rfl))) Slots.nil))))), (by first | exact List.Sublist.refl _ | exact .cons_cons _ (.cons _ (.refl _)) | exact List.nil_sublist _ | exact .cons _ (.refl _) | exact .cons _ (.cons _ (.refl _)) | exact .cons _ (.cons _ (.cons _ (.refl _))) | exact .cons _ (.cons _ (.cons _ (.cons _ (.refl _)))) | exact .cons_cons _ (List.nil_sublist _))⟩, (by omega), ⟨k + 1, rfl, rfl, (by omega)⟩⟩
    ·
     have hge : came.length ≤ k := by have := of_decide_eq_false hc4; simp at this; omega
     have hkl2 : came.take k = came := List.take_of_length_le hge
     refine awp_exit ?_
     refine x_thenE ?_
     refine x_thenE ?_
     refine x_blockE ?_
     refine x_then ?_
     refine awp_seq ?_
     refine awp_region ?_
     have hofe : (((out ++ gone) ++ (namesF a).filterMap (chgF a b) ++ (came.take k).map (addF b)).map (FC.csH Cs)) = (OfF a b).map (FC.csH Cs) := by rw [hkl2, OfF, show splitE a b = (came, out, gone) from hst]
     rw [hofe]
     refine r_move rfl rfl ?_
     refine awl_ownbufH 110 rfl (flat_fc Cs _) rfl (fun h0 => ?_) (fun gb gc ge => ?_)
     ·
      refine r_assign rfl rfl ?_
      refine awl_nil ?_
      refine x_then ?_
      refine awp_ret ?_
      exact ⟨(.inl rfl), _, [], (.one (by first | exact .mk rfl rfl | exact .nil rfl)), (.inl ⟨h0, rfl, rfl⟩), (List.nil_sublist _), (by simp)⟩
     ·
      refine r_assign rfl rfl ?_
      refine awl_nil ?_
      refine x_then ?_
      refine awp_ret ?_
      exact ⟨(.inl rfl), _, [⟨gb, true, .buf 4 ((OfF a b).map (FC.csH Cs)) gc ge⟩], (.one (by first | exact .mk rfl rfl | exact .nil rfl)), (.inr ⟨gb, gc, ge, rfl, rfl⟩), (by first | exact List.Sublist.refl _ | exact .cons_cons _ (.cons _ (.refl _)) | exact List.nil_sublist _ | exact .cons _ (.refl _) | exact .cons _ (.cons _ (.refl _)) | exact .cons _ (.cons _ (.cons _ (.refl _))) | exact .cons _ (.cons _ (.cons _ (.cons _ (.refl _)))) | exact .cons_cons _ (List.nil_sublist _)), (by simp)⟩
end Go.Proofs.Ytnbnegkdbjdekaa.A

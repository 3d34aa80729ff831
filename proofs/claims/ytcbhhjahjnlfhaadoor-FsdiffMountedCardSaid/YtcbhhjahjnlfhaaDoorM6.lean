import Derived.WalkKit
import Derived.Below
import Derived.Laws.Rows
import Derived.Laws.CopyRow
import Derived.Laws.AppendOwn
import Derived.RangeFuncLeaves
import Derived.RangeFuncSeq
import Derived.RangeFuncCalls
import Derived.MapKept
import Derived.Orders
import Derived.Laws.IdiomStrings
import Derived.Laws.BytesArg
import Derived.Shelf.SlIter.Nil
import Derived.Shelf.SortM.Plain
import Derived.Shelf.SortM.SortNone
import Derived.Ground.GgzProg
import Derived.Ground.SlgmProg
import Derived.Test.YtcbhhjahjnlfhaaDoorProg
import Derived.KernelRfl
import Derived.RangeFuncBound
import Derived.Maps.RangeRun
import Derived.DeepKeys3
import Derived.Laws.StructEq
import Derived.Shelf.SlSortCmp.NoneTotal
import Derived.ChangeKeysEq
import Derived.Laws.MakeOwn
import Derived.ChangeArms
import Derived.ChangeOld
import Derived.Laws.DeepStrings4
import Derived.OpenShut
import Derived.OrdersIn
import Derived.Lib.AppendZeros
import Derived.Lib.AppendZerosOnto
import Derived.Lib.Overlaps
import Derived.Deep.AppendSrc
import Derived.Lib.BytesEntry
import Derived.Test.YtcbhhjahjnlfhaaDoorRows
import Derived.ProofKit
import Derived.LaidMore
import Derived.Stop.Joined
import Derived.Test.YtcbhhjahjnlfhaaDoorM5
namespace Go.Proofs.YtcbhhjahjnlfhaaDoor.A
open Go Go.RowKit
set_option linter.unusedVariables false
set_option linter.unusedSimpArgs false
set_option maxRecDepth 100000
theorem TF.sl87 : sliceT Tryd.prog 87 = some 3 := by kernel_rfl
theorem TF.zraw3 : zeroT Tryd.prog 3 = some [(.int .i64 0)] := by kernel_rfl
theorem TF.en106 : entersT Tryd.prog 106 := enters_of Tryd.func106 (by kernel_rfl) (by kernel_rfl)
theorem TF.en89 : entersT Tryd.prog 89 := enters_of Tryd.func89 (by kernel_rfl) (by kernel_rfl)
theorem TF.en90 : entersT Tryd.prog 90 := enters_of Tryd.func90 (by kernel_rfl) (by kernel_rfl)
theorem TF.by9 : bytesT Tryd.prog 9 = some 16 := by kernel_rfl
theorem TF.zlen9 : (zeroT Tryd.prog 9).map (·.length) = some 1 := by kernel_rfl
theorem TF.map100 : mapT Tryd.prog 100 = some (9, 4) := by kernel_rfl
theorem TF.zav4 : ZeroAV Tryd.prog 4 (.v (.bool false)) := ⟨.v (.bool false), by kernel_rfl, .one (.refl _)⟩
theorem indexI_ok (l : List Int) (v : Int) (hl : l.length ≤ 1000000) : AC Tryd.prog 106 [.sl 1 (l.map fun x => [AV.v (.int .i64 x)]), .v (.int .i64 v)] [] (fun r n => n = [] ∧ r = .v (.int .i64 (optI (l.findIdx? (fun x => v == x))))) := by
 refine ac_of_awp (rs := [4]) (nt := 19) Tryd.func106 rfl rfl rfl rfl (fun w0 C0 hq => ?_)
 refine awp_seq ?_
 refine awp_region ?_
 refine r_assign rfl rfl ?_
 refine awl_nil ?_
 refine x_then ?_
 refine awp_seq ?_
 refine awp_seq ?_
 refine awp_region ?_
 refine r_move rfl rfl ?_
 first | (refine r_lenS rfl rfl TF.sl87 rfl ?_) | (refine r_lenNil rfl TF.sl87 rfl ?_) | (refine r_lenV rfl TF.sl87 rfl ?_)
 refine r_move rfl rfl ?_
 refine awl_nil ?_
 refine x_then ?_
 refine awp_block ?_
 refine awp_loop (fun nn0 S => ∃ k : Nat, S = ⟨19, [(0, .a (.sl 1 (l.map fun x => [AV.v (.int .i64 x)]))), (1, .a (.v (.int .i64 v))), (7, .a (.v (.int .i64 ((l.map fun x => [AV.v (.int .i64 x)]).length)))), (8, .a (.v (.int .i64 ((k : Int)))))], []⟩ ∧ nn0 = l.length - k ∧ (k ≤ l.length) ∧ ((l.take k).findIdx? (fun x => v == x) = none)) (l.length - (0)) ⟨19, [(0, .a (.sl 1 (l.map fun x => [AV.v (.int .i64 x)]))), (1, .a (.v (.int .i64 v))), (7, .a (.v (.int .i64 ((l.map fun x => [AV.v (.int .i64 x)]).length)))), (8, .a (.v (.int .i64 (((0) : Int)))))], []⟩ ⟨rfl, (Slots.cons rfl (by first | exact .refl _ | exact .nilOwn _ _ | exact .nilSl _ | exact .ownSl _ _ _  | exact SV.le.of_eq (by simp)) (Slots.cons rfl (by first | exact .refl _ | exact .nilOwn _ _ | exact .nilSl _ | exact .ownSl _ _ _  | exact SV.le.of_eq (by simp)) (Slots.cons rfl (by first | exact .refl _ | exact .nilOwn _ _ | exact .nilSl _ | exact .ownSl _ _ _  | exact SV.le.of_eq (by simp)) (Slots.cons rfl (by first | exact .refl _ | exact .nilOwn _ _ | exact .nilSl _ | exact .ownSl _ _ _  | exact SV.le.of_eq (by simp)) Slots.nil)))), (by first | exact List.Sublist.refl _ | exact .cons_cons _ (.cons _ (.refl _)) | exact List.nil_sublist _ | exact .cons _ (.refl _) | exact .cons _ (.cons _ (.refl _)) | exact .cons _ (.cons _ (.cons _ (.refl _))) | exact .cons _ (.cons _ (.cons _ (.cons _ (.refl _)))) | exact .cons_cons _ (List.nil_sublist _))⟩ ⟨0, rfl, rfl, Nat.zero_le _, rfl⟩ ?_
 rintro nn0 _ ⟨k, rfl, rfl, hk, hno⟩
 refine awp_seq ?_
 refine awp_region ?_
 refine r_cmp rfl rfl rfl rfl ?_
 refine awl_nil ?_
 refine x_then ?_
 refine awp_seq ?_
 refine awp_cond rfl (fun hc0 => ?_) (fun hc0 => ?_)
 ·
  have hltx : k < l.length := by have := of_decide_eq_true hc0; simpa using this
  obtain ⟨x, hx⟩ := get_lt hltx
  refine awp_skip ?_
  refine x_then ?_
  refine awp_seq ?_
  refine awp_block ?_
  refine awp_seq ?_
  refine awp_region ?_
  refine r_move rfl rfl ?_
  refine r_assign rfl rfl ?_
  refine awl_nil ?_
  refine x_then ?_
  refine awp_seq ?_
  refine awp_region ?_
  refine r_move rfl rfl ?_
  refine r_move rfl rfl ?_
  refine r_move rfl rfl ?_
  refine r_index rfl rfl rfl TF.sl87 TF.sz3 (by omega) (get_map hx) rfl ?_
  refine r_load1 rfl TF.agg3 rfl ?_
  refine r_cmp rfl rfl rfl rfl ?_
  refine awl_nil ?_
  refine x_then ?_
  refine awp_cond rfl (fun hc1 => ?_) (fun hc1 => ?_)
  ·
   refine awp_seq ?_
   refine awp_region ?_
   refine r_move rfl rfl ?_
   refine r_assign rfl rfl ?_
   refine awl_nil ?_
   refine x_then ?_
   refine awp_ret ?_
   refine x_blockR ?_
   refine x_thenR ?_
   refine x_thenR ?_
   refine x_blockR ?_
   refine x_thenR ?_
   exact ⟨(.inl rfl), _, [], (.one (by first | exact .mk rfl rfl | exact .nil rfl)), ⟨rfl, by rw [fidx_hit hx hc1 hno]; rfl⟩, (List.nil_sublist _), (by simp)⟩
  ·
   refine awp_skip ?_
   refine x_block ?_
   refine x_then ?_
   refine awp_region ?_
   refine r_ari _ rfl rfl rfl (wrap_id (by first | omega | (simp; omega))) rfl ?_
   refine r_move rfl rfl ?_
   refine awl_nil ?_
   refine x_then ?_
   refine ⟨l.length - (k + 1), ⟨19, [(0, .a (.sl 1 (l.map fun x => [AV.v (.int .i64 x)]))), (1, .a (.v (.int .i64 v))), (7, .a (.v (.int .i64 ((l.map fun x => [AV.v (.int .i64 x)]).length)))), (8, .a (.v (.int .i64 (((k + 1) : Int)))))], []⟩, ⟨rfl, (Slots.cons rfl (by first | exact .refl _ | exact .nilOwn _ _ | exact .nilSl _ | exact .ownSl _ _ _  | exact SV.le.of_eq (by simp)) (Slots.cons rfl (by first | exact .refl _ | exact .nilOwn _ _ | exact .nilSl _ | exact .ownSl _ _ _  | exact SV.le.of_eq (by simp)) (Slots.cons rfl (by first | exact .refl _ | exact .nilOwn _ _ | exact .nilSl _ | exact .ownSl _ _ _  | exact SV.le.of_eq (by simp)) (Slots.cons rfl (by first | exact .refl _ | exact .nilOwn _ _ | exact .nilSl _ | exact .ownSl _ _ _  | exact SV.le.of_eq (by simp)) Slots.nil)))), (by first | exact List.Sublist.refl _ | exact .cons_cons _ (.cons _ (.refl _)) | exact List.nil_sublist _ | exact .cons _ (.refl _) | exact .cons _ (.cons _ (.refl _)) | exact .cons _ (.cons _ (.cons _ (.refl _))) | exact .cons _ (.cons _ (.cons _ (.cons _ (.refl _)))) | exact .cons_cons _ (List.nil_sublist _))⟩, (by omega), ⟨k + 1, rfl, rfl, (by omega), (fidx_step hx hc1 hno)⟩⟩
 ·
  have hge : l.length ≤ k := by have := of_decide_eq_false hc0; simp at this; omega
  refine awp_exit ?_
  refine x_thenE ?_
  refine x_thenE ?_
  refine x_blockE ?_
  refine x_then ?_
  refine awp_seq ?_
  refine awp_region ?_
  refine r_assign rfl rfl ?_
  refine awl_nil ?_
  refine x_then ?_
  refine awp_ret ?_
  exact ⟨(.inl rfl), _, [], (.one (by first | exact .mk rfl rfl | exact .nil rfl)), ⟨rfl, by rw [fidx_end hge hno]; rfl⟩, (List.nil_sublist _), (by simp)⟩
theorem rank_ok (k : Int) : AC Tryd.prog 89 [.v (.int .i64 k)] [] (fun r n => n = [] ∧ r = .v (.int .i64 (rankF k))) := by
 refine ac_of_awp (rs := [2]) (nt := 6) Tryd.func89 rfl rfl rfl rfl (fun w0 C0 hq => ?_)
 refine awp_seq ?_
 refine awp_region ?_
 refine r_assign rfl rfl ?_
 refine awl_nil ?_
 refine x_then ?_
 refine awp_seq ?_
 refine awp_region ?_
 refine r_lit 3 (parts := [(0, .const ((Go.Value.int Go.IntKind.i64 4))), (1, .const ((Go.Value.int Go.IntKind.i64 2))), (2, .const ((Go.Value.int Go.IntKind.i64 3))), (3, .const ((Go.Value.int Go.IntKind.i64 1)))]) rfl TF.sl87 TF.sz3 TF.zraw3 rfl rfl rfl rfl rfl rfl rfl ?_
 refine r_move rfl rfl ?_
 refine r_call0 hq rfl rfl (.cons (.ev rfl rfl) (.cons (.ev rfl rfl) .nil)) (indexI_ok [4, 2, 3, 1] k (by simp)) rfl TF.en106 rfl (fun r hr => ?_)
 obtain rfl := hr
 refine r_assign rfl rfl ?_
 refine awl_nil ?_
 refine x_then ?_
 refine awp_ret ?_
 exact ⟨(.inl rfl), _, [], (.one (by first | exact .mk rfl rfl | exact .nil rfl)), ⟨rfl, rfl⟩, (List.nil_sublist _), (by simp)⟩
theorem bare_ok (c : FC) : AC Tryd.prog 90 [.agg (FC.cs c)] [] (fun r n => n = [] ∧ r = boolA (bareF c)) := by
 refine ac_of_awp (rs := [2]) (nt := 25) Tryd.func90 rfl rfl rfl rfl (fun w0 C0 hq => ?_)
 refine awp_seq ?_
 refine awp_region ?_
 refine r_box rfl rfl rfl (fun b1 => ?_)
 refine r_assign rfl rfl ?_
 refine awl_nil ?_
 refine x_then ?_
 refine awp_seq ?_
 refine awp_seq ?_
 refine awp_region ?_
 first | (refine r_fieldb rfl TF.f70_0 TF.sz3 rfl ?_) | (refine r_fieldcp rfl TF.f70_0 TF.sz3 rfl ?_)
 first | (refine r_load1b 0 rfl rfl rfl TF.agg3 rfl ?_) | (refine r_load1 rfl TF.agg3 rfl ?_)
 refine r_cmp rfl rfl rfl rfl ?_
 refine r_move rfl rfl ?_
 refine g_cases (t' := 6) rfl (fun hg6 => ?_) (fun hg6 => ?_)
 ·
  have h4 : (c.kind == 4) = false := by simpa using hg6
  refine g_run rfl rfl hg6 ?_
  first | (refine r_fieldb rfl TF.f70_2 TF.sz9 rfl ?_) | (refine r_fieldcp rfl TF.f70_2 TF.sz9 rfl ?_)
  refine g_run rfl rfl hg6 ?_
  first | (refine r_load1b 0 rfl rfl rfl TF.agg9 rfl ?_) | (refine r_load1 rfl TF.agg9 rfl ?_)
  refine g_run rfl rfl hg6 ?_
  refine r_str2 rfl rfl rfl rfl ?_
  refine r_pickT rfl hg6 rfl rfl ?_
  refine awl_nil ?_
  refine x_then ?_
  refine awp_cond rfl (fun hc0 => ?_) (fun hc0 => ?_)
  ·
   have ht : decide (c.to = E0) = false := by rw [E0]; simpa using hc0
   refine awp_seq ?_
   refine awp_region ?_
   refine r_assign rfl rfl ?_
   refine awl_nil ?_
   refine x_then ?_
   refine awp_ret ?_
   refine x_thenR ?_
   exact ⟨(.inl rfl), _, [], (.one (by first | exact .mk rfl rfl | exact .nil rfl)), ⟨rfl, by first | (simp only [bareF, h4, ht, Bool.not_true, Bool.not_false, Bool.true_and, Bool.and_true, Bool.false_and, Bool.and_false]; rfl) | (simp only [bareF, h4, hl, Bool.not_true, Bool.not_false, Bool.true_and, Bool.and_true, Bool.false_and, Bool.true_or]; rfl) | (simp only [bareF, h4, ht, hl, Bool.not_true, Bool.not_false, Bool.true_and, Bool.and_true, Bool.false_and, Bool.true_or]; rfl) | (simp only [bareF, h4, hl, h1, Bool.not_true, Bool.not_false, Bool.true_and, Bool.and_true, Bool.false_and, Bool.true_or, Bool.false_or]; rfl) | (simp only [bareF, h4, ht, hl, h1, Bool.not_true, Bool.not_false, Bool.true_and, Bool.and_true, Bool.false_and, Bool.true_or, Bool.false_or]; rfl)⟩, (List.nil_sublist _), (by simp)⟩
  ·
   have ht : decide (c.to = E0) = true := by rw [E0]; simpa using hc0
   refine awp_skip ?_
   refine x_then ?_
   refine awp_seq ?_
   refine awp_region ?_
   first | (refine r_fieldb rfl TF.f70_3 TF.sz22 rfl ?_) | (refine r_fieldcp rfl TF.f70_3 TF.sz22 rfl ?_)
   first | (refine r_load1b 0 rfl rfl rfl TF.agg22 rfl ?_) | (refine r_load1 rfl TF.agg22 rfl ?_)
   first | (refine r_lenS rfl rfl TF.sl22 rfl ?_) | (refine r_lenNil rfl TF.sl22 rfl ?_) | (refine r_lenV rfl TF.sl22 rfl ?_)
   refine r_cmp rfl rfl rfl rfl ?_
   refine r_move rfl rfl ?_
   refine g_cases (t' := 15) rfl (fun hg15 => ?_) (fun hg15 => ?_)
   ·
    have hl : decide (c.data.length = 0) = true := by have := eq_of_beq hg15; rw [u8s_len] at this; simpa using this
    refine g_skip rfl rfl hg15 rfl ?_
    refine g_skip rfl rfl hg15 rfl ?_
    refine g_skip rfl rfl hg15 rfl ?_
    refine r_pickT rfl hg15 rfl rfl ?_
    refine r_move rfl rfl ?_
    refine g_skip rfl rfl rfl rfl ?_
    refine g_skip rfl rfl rfl rfl ?_
    refine g_skip rfl rfl rfl rfl ?_
    refine r_pickT rfl rfl rfl rfl ?_
    refine r_assign rfl rfl ?_
    refine awl_nil ?_
    refine x_then ?_
    refine awp_ret ?_
    exact ⟨(.inl rfl), _, [], (.one (by first | exact .mk rfl rfl | exact .nil rfl)), ⟨rfl, by first | (simp only [bareF, h4, ht, Bool.not_true, Bool.not_false, Bool.true_and, Bool.and_true, Bool.false_and, Bool.and_false]; rfl) | (simp only [bareF, h4, hl, Bool.not_true, Bool.not_false, Bool.true_and, Bool.and_true, Bool.false_and, Bool.true_or]; rfl) | (simp only [bareF, h4, ht, hl, Bool.not_true, Bool.not_false, Bool.true_and, Bool.and_true, Bool.false_and, Bool.true_or]; rfl) | (simp only [bareF, h4, hl, h1, Bool.not_true, Bool.not_false, Bool.true_and, Bool.and_true, Bool.false_and, Bool.true_or, Bool.false_or]; rfl) | (simp only [bareF, h4, ht, hl, h1, Bool.not_true, Bool.not_false, Bool.true_and, Bool.and_true, Bool.false_and, Bool.true_or, Bool.false_or]; rfl)⟩, (List.nil_sublist _), (by simp)⟩
   ·
    have hl : decide (c.data.length = 0) = false := by simp [u8s_len] at hg15; simpa using hg15
    refine g_run rfl rfl hg15 ?_
    first | (refine r_fieldb rfl TF.f70_0 TF.sz3 rfl ?_) | (refine r_fieldcp rfl TF.f70_0 TF.sz3 rfl ?_)
    refine g_run rfl rfl hg15 ?_
    first | (refine r_load1b 0 rfl rfl rfl TF.agg3 rfl ?_) | (refine r_load1 rfl TF.agg3 rfl ?_)
    refine g_run rfl rfl hg15 ?_
    refine r_cmp rfl rfl rfl rfl ?_
    refine r_pickF rfl hg15 rfl rfl ?_
    refine r_move rfl rfl ?_
    refine g_cases (t' := 20) rfl (fun hg20 => ?_) (fun hg20 => ?_)
    ·
     have h1 : (c.kind == 1) = true := hg20
     refine g_skip rfl rfl hg20 rfl ?_
     refine g_skip rfl rfl hg20 rfl ?_
     refine g_skip rfl rfl hg20 rfl ?_
     refine r_pickT rfl hg20 rfl rfl ?_
     refine r_assign rfl rfl ?_
     refine awl_nil ?_
     refine x_then ?_
     refine awp_ret ?_
     exact ⟨(.inl rfl), _, [], (.one (by first | exact .mk rfl rfl | exact .nil rfl)), ⟨rfl, by first | (simp only [bareF, h4, ht, Bool.not_true, Bool.not_false, Bool.true_and, Bool.and_true, Bool.false_and, Bool.and_false]; rfl) | (simp only [bareF, h4, hl, Bool.not_true, Bool.not_false, Bool.true_and, Bool.and_true, Bool.false_and, Bool.true_or]; rfl) | (simp only [bareF, h4, ht, hl, Bool.not_true, Bool.not_false, Bool.true_and, Bool.and_true, Bool.false_and, Bool.true_or]; rfl) | (simp only [bareF, h4, hl, h1, Bool.not_true, Bool.not_false, Bool.true_and, Bool.and_true, Bool.false_and, Bool.true_or, Bool.false_or]; rfl) | (simp only [bareF, h4, ht, hl, h1, Bool.not_true, Bool.not_false, Bool.true_and, Bool.and_true, Bool.false_and, Bool.true_or, Bool.false_or]; rfl)⟩, (List.nil_sublist _), (by simp)⟩
    ·
     have h1 : (c.kind == 1) = false := hg20
     refine g_run rfl rfl hg20 ?_
     first | (refine r_fieldb rfl TF.f70_0 TF.sz3 rfl ?_) | (refine r_fieldcp rfl TF.f70_0 TF.sz3 rfl ?_)
     refine g_run rfl rfl hg20 ?_
     first | (refine r_load1b 0 rfl rfl rfl TF.agg3 rfl ?_) | (refine r_load1 rfl TF.agg3 rfl ?_)
     refine g_run rfl rfl hg20 ?_
     refine r_cmp rfl rfl rfl rfl ?_
     refine r_pickF rfl hg20 rfl rfl ?_
     refine r_assign rfl rfl ?_
     refine awl_nil ?_
     refine x_then ?_
     refine awp_ret ?_
     exact ⟨(.inl rfl), _, [], (.one (by first | exact .mk rfl rfl | exact .nil rfl)), ⟨rfl, by first | (simp only [bareF, h4, ht, Bool.not_true, Bool.not_false, Bool.true_and, Bool.and_true, Bool.false_and, Bool.and_false]; rfl) | (simp only [bareF, h4, hl, Bool.not_true, Bool.not_false, Bool.true_and, Bool.and_true, Bool.false_and, Bool.true_or]; rfl) | (simp only [bareF, h4, ht, hl, Bool.not_true, Bool.not_false, Bool.true_and, Bool.and_true, Bool.false_and, Bool.true_or]; rfl) | (simp only [bareF, h4, hl, h1, Bool.not_true, Bool.not_false, Bool.true_and, Bool.and_true, Bool.false_and, Bool.true_or, Bool.false_or]; rfl) | (simp only [bareF, h4, ht, hl, h1, Bool.not_true, Bool.not_false, Bool.true_and, Bool.and_true, Bool.false_and, Bool.true_or, Bool.false_or]; rfl)⟩, (List.nil_sublist _), (by simp)⟩
 ·
  have h4 : (c.kind == 4) = true := by simpa using hg6
  refine g_skip rfl rfl hg6 rfl ?_
  refine g_skip rfl rfl hg6 rfl ?_
  refine g_skip rfl rfl hg6 rfl ?_
  refine r_pickF rfl hg6 rfl rfl ?_
  refine awl_nil ?_
  refine x_then ?_
  refine awp_condF rfl ?_
  refine awp_skip ?_
  refine x_then ?_
  refine awp_seq ?_
  refine awp_region ?_
  first | (refine r_fieldb rfl TF.f70_3 TF.sz22 rfl ?_) | (refine r_fieldcp rfl TF.f70_3 TF.sz22 rfl ?_)
  first | (refine r_load1b 0 rfl rfl rfl TF.agg22 rfl ?_) | (refine r_load1 rfl TF.agg22 rfl ?_)
  first | (refine r_lenS rfl rfl TF.sl22 rfl ?_) | (refine r_lenNil rfl TF.sl22 rfl ?_) | (refine r_lenV rfl TF.sl22 rfl ?_)
  refine r_cmp rfl rfl rfl rfl ?_
  refine r_move rfl rfl ?_
  refine g_cases (t' := 15) rfl (fun hg15 => ?_) (fun hg15 => ?_)
  ·
   have hl : decide (c.data.length = 0) = true := by have := eq_of_beq hg15; rw [u8s_len] at this; simpa using this
   refine g_skip rfl rfl hg15 rfl ?_
   refine g_skip rfl rfl hg15 rfl ?_
   refine g_skip rfl rfl hg15 rfl ?_
   refine r_pickT rfl hg15 rfl rfl ?_
   refine r_move rfl rfl ?_
   refine g_skip rfl rfl rfl rfl ?_
   refine g_skip rfl rfl rfl rfl ?_
   refine g_skip rfl rfl rfl rfl ?_
   refine r_pickT rfl rfl rfl rfl ?_
   refine r_assign rfl rfl ?_
   refine awl_nil ?_
   refine x_then ?_
   refine awp_ret ?_
   exact ⟨(.inl rfl), _, [], (.one (by first | exact .mk rfl rfl | exact .nil rfl)), ⟨rfl, by first | (simp only [bareF, h4, ht, Bool.not_true, Bool.not_false, Bool.true_and, Bool.and_true, Bool.false_and, Bool.and_false]; rfl) | (simp only [bareF, h4, hl, Bool.not_true, Bool.not_false, Bool.true_and, Bool.and_true, Bool.false_and, Bool.true_or]; rfl) | (simp only [bareF, h4, ht, hl, Bool.not_true, Bool.not_false, Bool.true_and, Bool.and_true, Bool.false_and, Bool.true_or]; rfl) | (simp only [bareF, h4, hl, h1, Bool.not_true, Bool.not_false, Bool.true_and, Bool.and_true, Bool.false_and, Bool.true_or, Bool.false_or]; rfl) | (simp only [bareF, h4, ht, hl, h1, Bool.not_true, Bool.not_false, Bool.true_and, Bool.and_true, Bool.false_and, Bool.true_or, Bool.false_or]; rfl)⟩, (List.nil_sublist _), (by simp)⟩
  ·
   have hl : decide (c.data.length = 0) = false := by simp [u8s_len] at hg15; simpa using hg15
   refine g_run rfl rfl hg15 ?_
   first | (refine r_fieldb rfl TF.f70_0 TF.sz3 rfl ?_) | (refine r_fieldcp rfl TF.f70_0 TF.sz3 rfl ?_)
   refine g_run rfl rfl hg15 ?_
   first | (refine r_load1b 0 rfl rfl rfl TF.agg3 rfl ?_) | (refine r_load1 rfl TF.agg3 rfl ?_)
   refine g_run rfl rfl hg15 ?_
   refine r_cmp rfl rfl rfl rfl ?_
   refine r_pickF rfl hg15 rfl rfl ?_
   refine r_move rfl rfl ?_
   refine g_cases (t' := 20) rfl (fun hg20 => ?_) (fun hg20 => ?_)
   ·
    have h1 : (c.kind == 1) = true := hg20
    refine g_skip rfl rfl hg20 rfl ?_
    refine g_skip rfl rfl hg20 rfl ?_
    refine g_skip rfl rfl hg20 rfl ?_
    refine r_pickT rfl hg20 rfl rfl ?_
    refine r_assign rfl rfl ?_
    refine awl_nil ?_
    refine x_then ?_
    refine awp_ret ?_
    exact ⟨(.inl rfl), _, [], (.one (by first | exact .mk rfl rfl | exact .nil rfl)), ⟨rfl, by first | (simp only [bareF, h4, ht, Bool.not_true, Bool.not_false, Bool.true_and, Bool.and_true, Bool.false_and, Bool.and_false]; rfl) | (simp only [bareF, h4, hl, Bool.not_true, Bool.not_false, Bool.true_and, Bool.and_true, Bool.false_and, Bool.true_or]; rfl) | (simp only [bareF, h4, ht, hl, Bool.not_true, Bool.not_false, Bool.true_and, Bool.and_true, Bool.false_and, Bool.true_or]; rfl) | (simp only [bareF, h4, hl, h1, Bool.not_true, Bool.not_false, Bool.true_and, Bool.and_true, Bool.false_and, Bool.true_or, Bool.false_or]; rfl) | (simp only [bareF, h4, ht, hl, h1, Bool.not_true, Bool.not_false, Bool.true_and, Bool.and_true, Bool.false_and, Bool.true_or, Bool.false_or]; rfl)⟩, (List.nil_sublist _), (by simp)⟩
   ·
    have h1 : (c.kind == 1) = false := hg20
    refine g_run rfl rfl hg20 ?_
    first | (refine r_fieldb rfl TF.f70_0 TF.sz3 rfl ?_) | (refine r_fieldcp rfl TF.f70_0 TF.sz3 rfl ?_)
    refine g_run rfl rfl hg20 ?_
    first | (refine r_load1b 0 rfl rfl rfl TF.agg3 rfl ?_) | (refine r_load1 rfl TF.agg3 rfl ?_)
    refine g_run rfl rfl hg20 ?_
    refine r_cmp rfl rfl rfl rfl ?_
    refine r_pickF rfl hg20 rfl rfl ?_
    refine r_assign rfl rfl ?_
    refine awl_nil ?_
    refine x_then ?_
    refine awp_ret ?_
    exact ⟨(.inl rfl), _, [], (.one (by first | exact .mk rfl rfl | exact .nil rfl)), ⟨rfl, by first | (simp only [bareF, h4, ht, Bool.not_true, Bool.not_false, Bool.true_and, Bool.and_true, Bool.false_and, Bool.and_false]; rfl) | (simp only [bareF, h4, hl, Bool.not_true, Bool.not_false, Bool.true_and, Bool.and_true, Bool.false_and, Bool.true_or]; rfl) | (simp only [bareF, h4, ht, hl, Bool.not_true, Bool.not_false, Bool.true_and, Bool.and_true, Bool.false_and, Bool.true_or]; rfl) | (simp only [bareF, h4, hl, h1, Bool.not_true, Bool.not_false, Bool.true_and, Bool.and_true, Bool.false_and, Bool.true_or, Bool.false_or]; rfl) | (simp only [bareF, h4, ht, hl, h1, Bool.not_true, Bool.not_false, Bool.true_and, Bool.and_true, Bool.false_and, Bool.true_or, Bool.false_or]; rfl)⟩, (List.nil_sublist _), (by simp)⟩
set_option maxHeartbeats 1000000 in
theorem right_ok (d : List FC) (hd0 : d.length ≤ 10000) : AC Tryd.prog 63 [fcsA d] [] (fun r n => n = [] ∧ r = boolA (rightF d)) := by
 refine ac_of_awp (rs := [2]) (nt := 87) Tryd.func63 rfl rfl rfl rfl (fun w0 C0 hq => ?_)
 refine awp_seq ?_
 refine awp_region ?_
 refine r_assign rfl rfl ?_
 refine awl_nil ?_
 refine x_then ?_
 refine awp_seq ?_
 refine awp_region ?_
 refine r_makeMap (ek := Value.string) (ev := boolA) [] rfl rfl (fun b9 => ?_)
 refine r_assign rfl rfl ?_
 refine awl_nil ?_
 refine x_then ?_
 refine awp_seq ?_
 refine awp_seq ?_
 refine awp_region ?_
 refine r_move rfl rfl ?_
 first | (refine r_lenS rfl rfl TF.sl57 rfl ?_) | (refine r_lenNil rfl TF.sl57 rfl ?_) | (refine r_lenV rfl TF.sl57 rfl ?_)
 refine r_move rfl rfl ?_
 refine awl_nil ?_
 refine x_then ?_
 refine awp_block ?_
 refine awp_loop (fun nn0 S => ∃ k : Nat, ∃ m : List (ByteArray × Bool), S = ⟨87, [(0, .a (fcsA d)), (3, .a (.v (.map (some b9)))), (10, .a (fcsA d)), (11, .a (.v (.int .i64 ((d.map FC.cs).length)))), (12, .a (.v (.int .i64 ((k : Int)))))], [⟨b9, true, .map (encM Value.string boolA m)⟩]⟩ ∧ nn0 = d.length - k ∧ (k ≤ d.length) ∧ (∀ i, i < k → okC d i = true) ∧ (((d.take k).flatMap namesC).Nodup) ∧ (HasS m ((d.take k).flatMap namesC))) (d.length - (0)) ⟨87, [(0, .a (fcsA d)), (3, .a (.v (.map (some b9)))), (10, .a (fcsA d)), (11, .a (.v (.int .i64 ((d.map FC.cs).length)))), (12, .a (.v (.int .i64 (((0) : Int)))))], [⟨b9, true, .map (encM Value.string boolA ([]))⟩]⟩ ⟨rfl, (Slots.cons rfl (by first | exact .refl _ | exact .nilOwn _ _ | exact .nilSl _ | exact .ownSl _ _ _  | exact SV.le.of_eq (by simp)) (Slots.cons rfl (by first | exact .refl _ | exact .nilOwn _ _ | exact .nilSl _ | exact .ownSl _ _ _  | exact SV.le.of_eq (by simp)) (Slots.cons rfl (by first | exact .refl _ | exact .nilOwn _ _ | exact .nilSl _ | exact .ownSl _ _ _  | exact SV.le.of_eq (by simp)) (Slots.cons rfl (by first | exact .refl _ | exact .nilOwn _ _ | exact .nilSl _ | exact .ownSl _ _ _  | exact SV.le.of_eq (by simp)) (Slots.cons rfl (by first | exact .refl _ | exact .nilOwn _ _ | exact .nilSl _ | exact .ownSl _ _ _  | exact SV.le.of_eq (by simp)) Slots.nil))))), (by first | exact List.Sublist.refl _ | exact .cons_cons _ (.cons _ (.refl _)) | exact List.nil_sublist _ | exact .cons _ (.refl _) | exact .cons _ (.cons _ (.refl _)) | exact .cons _ (.cons _ (.cons _ (.refl _))) | exact .cons _ (.cons _ (.cons _ (.cons _ (.refl _)))) | exact .cons_cons _ (List.nil_sublist _))⟩ ⟨0, [], rfl, rfl, Nat.zero_le _, (fun i hi => by omega), (by simp), hasS_nil⟩ ?_
 rintro nn0 _ ⟨k, m, rfl, rfl, hk, hall, hnd, hm⟩
 refine awp_seq ?_
 refine awp_region ?_
 refine r_cmp rfl rfl rfl rfl ?_
 refine awl_nil ?_
 refine x_then ?_
 refine awp_seq ?_
 refine awp_cond rfl (fun hc0 => ?_) (fun hc0 => ?_)
 ·
  have hltx : k < d.length := by have := of_decide_eq_true hc0; simpa using this
  obtain ⟨x, hx⟩ := get_lt hltx
  refine awp_skip ?_
  refine x_then ?_
  refine awp_seq ?_
  refine awp_block ?_
  refine awp_seq ?_
  refine awp_region ?_
  refine r_move rfl rfl ?_
  refine r_index rfl rfl rfl TF.sl57 TF.sz70 (by omega) (get_map hx) rfl ?_
  first | (refine r_loadA rfl TF.agg70 TF.sz70 rfl rfl ?_) | (refine r_loadAb 0 rfl rfl TF.agg70 TF.sz70 rfl rfl ?_)
  refine r_alloc TF.zero70 rfl (fun b5 => ?_)
  refine r_assign rfl rfl ?_
  first | (refine r_store 0 rfl rfl rfl TF.sz70 rfl rfl rfl ?_) | (refine r_store 1 rfl rfl rfl TF.sz70 rfl rfl rfl ?_)
  refine awl_nil ?_
  refine x_then ?_
  refine awp_seq ?_
  refine awp_seq ?_
  refine awp_region ?_
  first | (refine r_fieldb rfl TF.f70_0 TF.sz3 rfl ?_) | (refine r_fieldcp rfl TF.f70_0 TF.sz3 rfl ?_)
  first | (refine r_load1b 0 rfl rfl rfl TF.agg3 rfl ?_) | (refine r_load1 rfl TF.agg3 rfl ?_) | (refine r_load1b 1 rfl rfl rfl TF.agg3 rfl ?_)
  refine r_call0 hq rfl rfl (.cons (.ev rfl rfl) .nil) (rank_ok x.kind) rfl TF.en89 rfl (fun r hr => ?_)
  obtain rfl := hr
  refine r_cmp rfl rfl rfl rfl ?_
  refine r_move rfl rfl ?_
  refine g_cases (t' := 21) rfl (fun hg21 => ?_) (fun hg21 => ?_)
  ·
   have hbad : okC d k = false := by simp only [okC, hx, hg21]; rfl
   refine g_skip rfl rfl hg21 rfl ?_
   refine g_skip rfl rfl hg21 rfl ?_
   refine g_skip rfl rfl hg21 rfl ?_
   refine r_pickT rfl hg21 rfl rfl ?_
   refine awl_nil ?_
   refine x_then ?_
   refine awp_condT rfl ?_
   refine awp_seq ?_
   refine awp_region ?_
   refine r_assign rfl rfl ?_
   refine awl_nil ?_
   refine x_then ?_
   refine awp_ret ?_
   refine x_thenR ?_
   refine x_blockR ?_
   refine x_thenR ?_
   refine x_thenR ?_
   refine x_blockR ?_
   refine x_thenR ?_
   exact ⟨(.inl rfl), _, [], (.one (by first | exact .mk rfl rfl | exact .nil rfl)), ⟨rfl, by first | (rw [right_bad hltx hbad]; rfl) | (rw [right_dup hx hs ((hm2 s).1 hc5)]; rfl) | (rw [right_good (fun i hi => hall i (by omega)) hnd]; rfl)⟩, (List.nil_sublist _), (by simp)⟩
  ·
   refine g_run rfl rfl hg21 ?_
   first | (refine r_loadAb 0 rfl rfl TF.agg70 TF.sz70 rfl rfl ?_) | (refine r_loadA rfl TF.agg70 TF.sz70 rfl rfl ?_) | (refine r_loadAb 1 rfl rfl TF.agg70 TF.sz70 rfl rfl ?_)
   refine g_run rfl rfl hg21 ?_
   refine r_call0 hq rfl rfl (.cons (.ev rfl rfl) .nil) (bare_ok x) rfl TF.en90 rfl (fun r hr => ?_)
   obtain rfl := hr
   refine g_run rfl rfl hg21 ?_
   refine r_not rfl rfl ?_
   refine r_pickF rfl hg21 rfl rfl ?_
   refine awl_nil ?_
   refine x_then ?_
   refine awp_cond rfl (fun hc1 => ?_) (fun hc1 => ?_)
   ·
    have hbad : okC d k = false := by simp only [okC, hx, hg21, show bareF x = false by simpa using hc1]; rfl
    refine awp_seq ?_
    refine awp_region ?_
    refine r_assign rfl rfl ?_
    refine awl_nil ?_
    refine x_then ?_
    refine awp_ret ?_
    refine x_thenR ?_
    refine x_blockR ?_
    refine x_thenR ?_
    refine x_thenR ?_
    refine x_blockR ?_
    refine x_thenR ?_
    exact ⟨(.inl rfl), _, [], (.one (by first | exact .mk rfl rfl | exact .nil rfl)), ⟨rfl, by first | (rw [right_bad hltx hbad]; rfl) | (rw [right_dup hx hs ((hm2 s).1 hc5)]; rfl) | (rw [right_good (fun i hi => hall i (by omega)) hnd]; rfl)⟩, (List.nil_sublist _), (by simp)⟩
   ·
    have hbr : bareF x = true := by simpa using hc1
    refine awp_skip ?_
    refine x_then ?_
    refine awp_seq ?_
    refine awp_seq ?_
    rcases Bool.eq_false_or_eq_true (decide ((k : Int) > 0)) with hg28 | hg28
    ·
     have hk0 : 0 < k := by have := of_decide_eq_true hg28; omega
     obtain ⟨y, hy⟩ := get_lt (show k - 1 < d.length by omega)
     rcases Bool.eq_false_or_eq_true (decide (rankF y.kind > rankF x.kind)) with hg40 | hg40
     ·
      have hbad : okC d k = false := by simp only [okC, hx, hg21, hy, hbr, decide_eq_true hk0, pairF, hg40]; rfl
      refine awp_drawS [26, 27, 28, 29, 30, 31, 32, 33, 34, 35, 36, 37, 38, 39, 40, 41, 42, 43, 44, 45, 46, 47, 48, 49, 50, 51, 52, 53, 54, 55, 56, 57, 58] [_, _, _, _, _, _, _, _, _, _, _, _, _, _, _, _, _, _, _, _, _, _, _, _, _, _, _, _, _, _, _, _, _] [] [] TF.mixed rfl rfl rfl ⟨⟨⟨⟨⟨⟨⟨⟨⟨⟨⟨⟨⟨⟨⟨⟨⟨⟨⟨⟨⟨⟨⟨⟨⟨⟨⟨⟨⟨⟨⟨⟨⟨trivial
       , ⟨_, rfl, fun sl hd hr ho => by
         refine r_move (hr 4 _ rfl rfl rfl) rfl ?_
         exact awl_nil ⟨rfl, post_put⟩⟩⟩
       , ⟨_, rfl, fun sl hd hr ho => by
         refine r_cmp (hd 0 _ rfl rfl rfl) rfl rfl rfl ?_
         exact awl_nil ⟨rfl, post_put⟩⟩⟩
       , ⟨_, rfl, fun sl hd hr ho => by
         refine r_move (hd 1 _ rfl rfl rfl) rfl ?_
         exact awl_nil ⟨rfl, post_put⟩⟩⟩
       , ⟨_, rfl, fun sl hd hr ho => by
         refine g_run rfl (hd 2 _ rfl rfl rfl) hg28 ?_
         refine r_move (hr 0 _ rfl rfl rfl) rfl ?_
         exact awl_nil ⟨rfl, post_put⟩⟩⟩
       , ⟨_, rfl, fun sl hd hr ho => by
         refine g_run rfl (hd 2 _ rfl rfl rfl) hg28 ?_
         refine r_move (hr 4 _ rfl rfl rfl) rfl ?_
         exact awl_nil ⟨rfl, post_put⟩⟩⟩
       , ⟨_, rfl, fun sl hd hr ho => by
         refine g_run rfl (hd 2 _ rfl rfl rfl) hg28 ?_
         refine r_ari _ (hd 4 _ rfl rfl rfl) rfl rfl (wrap_id (by first | omega | (simp; omega))) rfl ?_
         exact awl_nil ⟨rfl, post_put⟩⟩⟩
       , ⟨_, rfl, fun sl hd hr ho => by
         refine g_run rfl (hd 2 _ rfl rfl rfl) hg28 ?_
         refine r_index (hd 3 _ rfl rfl rfl) rfl (hd 5 _ rfl rfl rfl) TF.sl57 TF.sz70 (by omega) (by rw [show ((k : Int) - 1).toNat = k - 1 by omega]; exact get_map hy) rfl ?_
         exact awl_nil ⟨rfl, post_put⟩⟩⟩
       , ⟨_, rfl, fun sl hd hr ho => by
         refine g_run rfl (hd 2 _ rfl rfl rfl) hg28 ?_
         first | (refine r_fieldb (hd 6 _ rfl rfl rfl) TF.f70_0 TF.sz3 rfl ?_) | (refine r_fieldcp (hd 6 _ rfl rfl rfl) TF.f70_0 TF.sz3 rfl ?_)
         exact awl_nil ⟨rfl, post_put⟩⟩⟩
       , ⟨_, rfl, fun sl hd hr ho => by
         refine g_run rfl (hd 2 _ rfl rfl rfl) hg28 ?_
         first | (refine r_load1b 0 (hd 7 _ rfl rfl rfl) rfl rfl TF.agg3 rfl ?_) | (refine r_load1 (hd 7 _ rfl rfl rfl) TF.agg3 rfl ?_) | (refine r_load1b 1 (hd 7 _ rfl rfl rfl) rfl rfl TF.agg3 rfl ?_)
         exact awl_nil ⟨rfl, post_put⟩⟩⟩
       , ⟨_, rfl, fun sl hd hr ho => by
         refine g_run rfl (hd 2 _ rfl rfl rfl) hg28 ?_
         refine r_call0 hq rfl rfl (.cons (.ev (hd 8 _ rfl rfl rfl) rfl) .nil) (rank_ok y.kind) rfl TF.en89 rfl (fun r hr => ?_)
         obtain rfl := hr
         exact awl_nil ⟨rfl, post_put⟩⟩⟩
       , ⟨_, rfl, fun sl hd hr ho => by
         refine g_run rfl (hd 2 _ rfl rfl rfl) hg28 ?_
         first | (refine r_fieldb (hr 5 _ rfl rfl rfl) TF.f70_0 TF.sz3 rfl ?_) | (refine r_fieldcp (hr 5 _ rfl rfl rfl) TF.f70_0 TF.sz3 rfl ?_)
         exact awl_nil ⟨rfl, post_put⟩⟩⟩
       , ⟨_, rfl, fun sl hd hr ho => by
         refine g_run rfl (hd 2 _ rfl rfl rfl) hg28 ?_
         first | (refine r_load1b 0 (hd 10 _ rfl rfl rfl) rfl rfl TF.agg3 rfl ?_) | (refine r_load1 (hd 10 _ rfl rfl rfl) TF.agg3 rfl ?_) | (refine r_load1b 1 (hd 10 _ rfl rfl rfl) rfl rfl TF.agg3 rfl ?_)
         exact awl_nil ⟨rfl, post_put⟩⟩⟩
       , ⟨_, rfl, fun sl hd hr ho => by
         refine g_run rfl (hd 2 _ rfl rfl rfl) hg28 ?_
         refine r_call0 hq rfl rfl (.cons (.ev (hd 11 _ rfl rfl rfl) rfl) .nil) (rank_ok x.kind) rfl TF.en89 rfl (fun r hr => ?_)
         obtain rfl := hr
         exact awl_nil ⟨rfl, post_put⟩⟩⟩
       , ⟨_, rfl, fun sl hd hr ho => by
         refine g_run rfl (hd 2 _ rfl rfl rfl) hg28 ?_
         refine r_cmp (hd 9 _ rfl rfl rfl) (hd 12 _ rfl rfl rfl) rfl rfl ?_
         exact awl_nil ⟨rfl, post_put⟩⟩⟩
       , ⟨_, rfl, fun sl hd hr ho => by
         refine g_run rfl (hd 2 _ rfl rfl rfl) hg28 ?_
         refine r_move (hd 13 _ rfl rfl rfl) rfl ?_
         exact awl_nil ⟨rfl, post_put⟩⟩⟩
       , ⟨_, rfl, fun sl hd hr ho => by
         refine g_skip rfl (hd 14 _ rfl rfl rfl) hg40 rfl ?_
         exact awl_nil ⟨rfl, post_put⟩⟩⟩
       , ⟨_, rfl, fun sl hd hr ho => by
         refine g_skip rfl (hd 14 _ rfl rfl rfl) hg40 rfl ?_
         exact awl_nil ⟨rfl, post_put⟩⟩⟩
       , ⟨_, rfl, fun sl hd hr ho => by
         refine g_skip rfl (hd 14 _ rfl rfl rfl) hg40 rfl ?_
         exact awl_nil ⟨rfl, post_put⟩⟩⟩
       , ⟨_, rfl, fun sl hd hr ho => by
         refine g_skip rfl (hd 14 _ rfl rfl rfl) hg40 rfl ?_
         exact awl_nil ⟨rfl, post_put⟩⟩⟩
       , ⟨_, rfl, fun sl hd hr ho => by
         refine g_skip rfl (hd 14 _ rfl rfl rfl) hg40 rfl ?_
         exact awl_nil ⟨rfl, post_put⟩⟩⟩
       , ⟨_, rfl, fun sl hd hr ho => by
         refine g_skip rfl (hd 14 _ rfl rfl rfl) hg40 rfl ?_
         exact awl_nil ⟨rfl, post_put⟩⟩⟩
       , ⟨_, rfl, fun sl hd hr ho => by
         refine g_skip rfl (hd 14 _ rfl rfl rfl) hg40 rfl ?_
         exact awl_nil ⟨rfl, post_put⟩⟩⟩
       , ⟨_, rfl, fun sl hd hr ho => by
         refine g_skip rfl (hd 14 _ rfl rfl rfl) hg40 rfl ?_
         exact awl_nil ⟨rfl, post_put⟩⟩⟩
       , ⟨_, rfl, fun sl hd hr ho => by
         refine g_skip rfl (hd 14 _ rfl rfl rfl) hg40 rfl ?_
         exact awl_nil ⟨rfl, post_put⟩⟩⟩
       , ⟨_, rfl, fun sl hd hr ho => by
         refine g_skip rfl (hd 14 _ rfl rfl rfl) hg40 rfl ?_
         exact awl_nil ⟨rfl, post_put⟩⟩⟩
       , ⟨_, rfl, fun sl hd hr ho => by
         refine g_skipU rfl (hd 24 _ rfl rfl rfl) rfl ?_
         exact awl_nil ⟨rfl, post_put⟩⟩⟩
       , ⟨_, rfl, fun sl hd hr ho => by
         refine g_skipU rfl (hd 24 _ rfl rfl rfl) rfl ?_
         exact awl_nil ⟨rfl, post_put⟩⟩⟩
       , ⟨_, rfl, fun sl hd hr ho => by
         refine g_skipU rfl (hd 24 _ rfl rfl rfl) rfl ?_
         exact awl_nil ⟨rfl, post_put⟩⟩⟩
       , ⟨_, rfl, fun sl hd hr ho => by
         refine g_skipU rfl (hd 24 _ rfl rfl rfl) rfl ?_
         exact awl_nil ⟨rfl, post_put⟩⟩⟩
       , ⟨_, rfl, fun sl hd hr ho => by
         refine g_skipU rfl (hd 24 _ rfl rfl rfl) rfl ?_
         exact awl_nil ⟨rfl, post_put⟩⟩⟩
       , ⟨_, rfl, fun sl hd hr ho => by
         refine g_skipU rfl (hd 24 _ rfl rfl rfl) rfl ?_
         exact awl_nil ⟨rfl, post_put⟩⟩⟩
       , ⟨_, rfl, fun sl hd hr ho => by
         refine g_skipU rfl (hd 24 _ rfl rfl rfl) rfl ?_
         exact awl_nil ⟨rfl, post_put⟩⟩⟩
       , ⟨_, rfl, fun sl hd hr ho => by
         refine g_skipU rfl (hd 24 _ rfl rfl rfl) rfl ?_
         exact awl_nil ⟨rfl, post_put⟩⟩⟩
       (by rfl) ?_
      refine g_skipU rfl rfl rfl ?_
      refine g_skip rfl rfl hg40 rfl ?_
      refine g_run rfl rfl hg28 ?_
      refine r_pickT rfl hg40 rfl rfl ?_
      refine r_pickT rfl hg28 rfl rfl ?_
      refine awl_nil ?_
      refine x_then ?_
      refine awp_condT rfl ?_
      refine awp_seq ?_
      refine awp_region ?_
      refine r_assign rfl rfl ?_
      refine awl_nil ?_
      refine x_then ?_
      refine awp_ret ?_
      refine x_thenR ?_
      refine x_blockR ?_
      refine x_thenR ?_
      refine x_thenR ?_
      refine x_blockR ?_
      refine x_thenR ?_
      exact ⟨(.inl rfl), _, [], (.one (by first | exact .mk rfl rfl | exact .nil rfl)), ⟨rfl, by first | (rw [right_bad hltx hbad]; rfl) | (rw [right_dup hx hs ((hm2 s).1 hc5)]; rfl) | (rw [right_good (fun i hi => hall i (by omega)) hnd]; rfl)⟩, (List.nil_sublist _), (by simp)⟩
     ·
      rcases Bool.eq_false_or_eq_true (y.kind == x.kind) with hg50 | hg50
      ·
       refine awp_drawS [26, 27, 28, 29, 30, 31, 32, 33, 34, 35, 36, 37, 38, 39, 40, 41, 42, 43, 44, 45, 46, 47, 48, 49, 50, 51, 52, 53, 54, 55, 56, 57, 58] [_, _, _, _, _, _, _, _, _, _, _, _, _, _, _, _, _, _, _, _, _, _, _, _, _, _, _, _, _, _, _, _, _] [] [] TF.mixed rfl rfl rfl ⟨⟨⟨⟨⟨⟨⟨⟨⟨⟨⟨⟨⟨⟨⟨⟨⟨⟨⟨⟨⟨⟨⟨⟨⟨⟨⟨⟨⟨⟨⟨⟨⟨trivial
        , ⟨_, rfl, fun sl hd hr ho => by
          refine r_move (hr 4 _ rfl rfl rfl) rfl ?_
          exact awl_nil ⟨rfl, post_put⟩⟩⟩
        , ⟨_, rfl, fun sl hd hr ho => by
          refine r_cmp (hd 0 _ rfl rfl rfl) rfl rfl rfl ?_
          exact awl_nil ⟨rfl, post_put⟩⟩⟩
        , ⟨_, rfl, fun sl hd hr ho => by
          refine r_move (hd 1 _ rfl rfl rfl) rfl ?_
          exact awl_nil ⟨rfl, post_put⟩⟩⟩
        , ⟨_, rfl, fun sl hd hr ho => by
          refine g_run rfl (hd 2 _ rfl rfl rfl) hg28 ?_
          refine r_move (hr 0 _ rfl rfl rfl) rfl ?_
          exact awl_nil ⟨rfl, post_put⟩⟩⟩
        , ⟨_, rfl, fun sl hd hr ho => by
          refine g_run rfl (hd 2 _ rfl rfl rfl) hg28 ?_
          refine r_move (hr 4 _ rfl rfl rfl) rfl ?_
          exact awl_nil ⟨rfl, post_put⟩⟩⟩
        , ⟨_, rfl, fun sl hd hr ho => by
          refine g_run rfl (hd 2 _ rfl rfl rfl) hg28 ?_
          refine r_ari _ (hd 4 _ rfl rfl rfl) rfl rfl (wrap_id (by first | omega | (simp; omega))) rfl ?_
          exact awl_nil ⟨rfl, post_put⟩⟩⟩
        , ⟨_, rfl, fun sl hd hr ho => by
          refine g_run rfl (hd 2 _ rfl rfl rfl) hg28 ?_
          refine r_index (hd 3 _ rfl rfl rfl) rfl (hd 5 _ rfl rfl rfl) TF.sl57 TF.sz70 (by omega) (by rw [show ((k : Int) - 1).toNat = k - 1 by omega]; exact get_map hy) rfl ?_
          exact awl_nil ⟨rfl, post_put⟩⟩⟩
        , ⟨_, rfl, fun sl hd hr ho => by
          refine g_run rfl (hd 2 _ rfl rfl rfl) hg28 ?_
          first | (refine r_fieldb (hd 6 _ rfl rfl rfl) TF.f70_0 TF.sz3 rfl ?_) | (refine r_fieldcp (hd 6 _ rfl rfl rfl) TF.f70_0 TF.sz3 rfl ?_)
          exact awl_nil ⟨rfl, post_put⟩⟩⟩
        , ⟨_, rfl, fun sl hd hr ho => by
          refine g_run rfl (hd 2 _ rfl rfl rfl) hg28 ?_
          first | (refine r_load1b 0 (hd 7 _ rfl rfl rfl) rfl rfl TF.agg3 rfl ?_) | (refine r_load1 (hd 7 _ rfl rfl rfl) TF.agg3 rfl ?_) | (refine r_load1b 1 (hd 7 _ rfl rfl rfl) rfl rfl TF.agg3 rfl ?_)
          exact awl_nil ⟨rfl, post_put⟩⟩⟩
        , ⟨_, rfl, fun sl hd hr ho => by
          refine g_run rfl (hd 2 _ rfl rfl rfl) hg28 ?_
          refine r_call0 hq rfl rfl (.cons (.ev (hd 8 _ rfl rfl rfl) rfl) .nil) (rank_ok y.kind) rfl TF.en89 rfl (fun r hr => ?_)
          obtain rfl := hr
          exact awl_nil ⟨rfl, post_put⟩⟩⟩
        , ⟨_, rfl, fun sl hd hr ho => by
          refine g_run rfl (hd 2 _ rfl rfl rfl) hg28 ?_
          first | (refine r_fieldb (hr 5 _ rfl rfl rfl) TF.f70_0 TF.sz3 rfl ?_) | (refine r_fieldcp (hr 5 _ rfl rfl rfl) TF.f70_0 TF.sz3 rfl ?_)
          exact awl_nil ⟨rfl, post_put⟩⟩⟩
        , ⟨_, rfl, fun sl hd hr ho => by
          refine g_run rfl (hd 2 _ rfl rfl rfl) hg28 ?_
          first | (refine r_load1b 0 (hd 10 _ rfl rfl rfl) rfl rfl TF.agg3 rfl ?_) | (refine r_load1 (hd 10 _ rfl rfl rfl) TF.agg3 rfl ?_) | (refine r_load1b 1 (hd 10 _ rfl rfl rfl) rfl rfl TF.agg3 rfl ?_)
          exact awl_nil ⟨rfl, post_put⟩⟩⟩
        , ⟨_, rfl, fun sl hd hr ho => by
          refine g_run rfl (hd 2 _ rfl rfl rfl) hg28 ?_
          refine r_call0 hq rfl rfl (.cons (.ev (hd 11 _ rfl rfl rfl) rfl) .nil) (rank_ok x.kind) rfl TF.en89 rfl (fun r hr => ?_)
          obtain rfl := hr
          exact awl_nil ⟨rfl, post_put⟩⟩⟩
        , ⟨_, rfl, fun sl hd hr ho => by
          refine g_run rfl (hd 2 _ rfl rfl rfl) hg28 ?_
          refine r_cmp (hd 9 _ rfl rfl rfl) (hd 12 _ rfl rfl rfl) rfl rfl ?_
          exact awl_nil ⟨rfl, post_put⟩⟩⟩
        , ⟨_, rfl, fun sl hd hr ho => by
          refine g_run rfl (hd 2 _ rfl rfl rfl) hg28 ?_
          refine r_move (hd 13 _ rfl rfl rfl) rfl ?_
          exact awl_nil ⟨rfl, post_put⟩⟩⟩
        , ⟨_, rfl, fun sl hd hr ho => by
          refine g_run rfl (hd 14 _ rfl rfl rfl) hg40 ?_
          refine r_move (hr 0 _ rfl rfl rfl) rfl ?_
          exact awl_nil ⟨rfl, post_put⟩⟩⟩
        , ⟨_, rfl, fun sl hd hr ho => by
          refine g_run rfl (hd 14 _ rfl rfl rfl) hg40 ?_
          refine r_move (hr 4 _ rfl rfl rfl) rfl ?_
          exact awl_nil ⟨rfl, post_put⟩⟩⟩
        , ⟨_, rfl, fun sl hd hr ho => by
          refine g_run rfl (hd 14 _ rfl rfl rfl) hg40 ?_
          refine r_ari _ (hd 16 _ rfl rfl rfl) rfl rfl (wrap_id (by first | omega | (simp; omega))) rfl ?_
          exact awl_nil ⟨rfl, post_put⟩⟩⟩
        , ⟨_, rfl, fun sl hd hr ho => by
          refine g_run rfl (hd 14 _ rfl rfl rfl) hg40 ?_
          refine r_index (hd 15 _ rfl rfl rfl) rfl (hd 17 _ rfl rfl rfl) TF.sl57 TF.sz70 (by omega) (by rw [show ((k : Int) - 1).toNat = k - 1 by omega]; exact get_map hy) rfl ?_
          exact awl_nil ⟨rfl, post_put⟩⟩⟩
        , ⟨_, rfl, fun sl hd hr ho => by
          refine g_run rfl (hd 14 _ rfl rfl rfl) hg40 ?_
          first | (refine r_fieldb (hd 18 _ rfl rfl rfl) TF.f70_0 TF.sz3 rfl ?_) | (refine r_fieldcp (hd 18 _ rfl rfl rfl) TF.f70_0 TF.sz3 rfl ?_)
          exact awl_nil ⟨rfl, post_put⟩⟩⟩
        , ⟨_, rfl, fun sl hd hr ho => by
          refine g_run rfl (hd 14 _ rfl rfl rfl) hg40 ?_
          first | (refine r_load1b 0 (hd 19 _ rfl rfl rfl) rfl rfl TF.agg3 rfl ?_) | (refine r_load1 (hd 19 _ rfl rfl rfl) TF.agg3 rfl ?_) | (refine r_load1b 1 (hd 19 _ rfl rfl rfl) rfl rfl TF.agg3 rfl ?_)
          exact awl_nil ⟨rfl, post_put⟩⟩⟩
        , ⟨_, rfl, fun sl hd hr ho => by
          refine g_run rfl (hd 14 _ rfl rfl rfl) hg40 ?_
          first | (refine r_fieldb (hr 5 _ rfl rfl rfl) TF.f70_0 TF.sz3 rfl ?_) | (refine r_fieldcp (hr 5 _ rfl rfl rfl) TF.f70_0 TF.sz3 rfl ?_)
          exact awl_nil ⟨rfl, post_put⟩⟩⟩
        , ⟨_, rfl, fun sl hd hr ho => by
          refine g_run rfl (hd 14 _ rfl rfl rfl) hg40 ?_
          first | (refine r_load1b 0 (hd 21 _ rfl rfl rfl) rfl rfl TF.agg3 rfl ?_) | (refine r_load1 (hd 21 _ rfl rfl rfl) TF.agg3 rfl ?_) | (refine r_load1b 1 (hd 21 _ rfl rfl rfl) rfl rfl TF.agg3 rfl ?_)
          exact awl_nil ⟨rfl, post_put⟩⟩⟩
        , ⟨_, rfl, fun sl hd hr ho => by
          refine g_run rfl (hd 14 _ rfl rfl rfl) hg40 ?_
          refine r_cmp (hd 20 _ rfl rfl rfl) (hd 22 _ rfl rfl rfl) rfl rfl ?_
          exact awl_nil ⟨rfl, post_put⟩⟩⟩
        , ⟨_, rfl, fun sl hd hr ho => by
          refine g_run rfl (hd 14 _ rfl rfl rfl) hg40 ?_
          refine r_move (hd 23 _ rfl rfl rfl) rfl ?_
          exact awl_nil ⟨rfl, post_put⟩⟩⟩
        , ⟨_, rfl, fun sl hd hr ho => by
          refine g_run rfl (hd 24 _ rfl rfl rfl) hg50 ?_
          refine r_move (hr 0 _ rfl rfl rfl) rfl ?_
          exact awl_nil ⟨rfl, post_put⟩⟩⟩
        , ⟨_, rfl, fun sl hd hr ho => by
          refine g_run rfl (hd 24 _ rfl rfl rfl) hg50 ?_
          refine r_move (hr 4 _ rfl rfl rfl) rfl ?_
          exact awl_nil ⟨rfl, post_put⟩⟩⟩
        , ⟨_, rfl, fun sl hd hr ho => by
          refine g_run rfl (hd 24 _ rfl rfl rfl) hg50 ?_
          refine r_ari _ (hd 26 _ rfl rfl rfl) rfl rfl (wrap_id (by first | omega | (simp; omega))) rfl ?_
          exact awl_nil ⟨rfl, post_put⟩⟩⟩
        , ⟨_, rfl, fun sl hd hr ho => by
          refine g_run rfl (hd 24 _ rfl rfl rfl) hg50 ?_
          refine r_index (hd 25 _ rfl rfl rfl) rfl (hd 27 _ rfl rfl rfl) TF.sl57 TF.sz70 (by omega) (by rw [show ((k : Int) - 1).toNat = k - 1 by omega]; exact get_map hy) rfl ?_
          exact awl_nil ⟨rfl, post_put⟩⟩⟩
        , ⟨_, rfl, fun sl hd hr ho => by
          refine g_run rfl (hd 24 _ rfl rfl rfl) hg50 ?_
          first | (refine r_fieldb (hd 28 _ rfl rfl rfl) TF.f70_1 TF.sz9 rfl ?_) | (refine r_fieldcp (hd 28 _ rfl rfl rfl) TF.f70_1 TF.sz9 rfl ?_)
          exact awl_nil ⟨rfl, post_put⟩⟩⟩
        , ⟨_, rfl, fun sl hd hr ho => by
          refine g_run rfl (hd 24 _ rfl rfl rfl) hg50 ?_
          first | (refine r_load1b 0 (hd 29 _ rfl rfl rfl) rfl rfl TF.agg9 rfl ?_) | (refine r_load1 (hd 29 _ rfl rfl rfl) TF.agg9 rfl ?_) | (refine r_load1b 1 (hd 29 _ rfl rfl rfl) rfl rfl TF.agg9 rfl ?_)
          exact awl_nil ⟨rfl, post_put⟩⟩⟩
        , ⟨_, rfl, fun sl hd hr ho => by
          refine g_run rfl (hd 24 _ rfl rfl rfl) hg50 ?_
          first | (refine r_fieldb (hr 5 _ rfl rfl rfl) TF.f70_1 TF.sz9 rfl ?_) | (refine r_fieldcp (hr 5 _ rfl rfl rfl) TF.f70_1 TF.sz9 rfl ?_)
          exact awl_nil ⟨rfl, post_put⟩⟩⟩
        , ⟨_, rfl, fun sl hd hr ho => by
          refine g_run rfl (hd 24 _ rfl rfl rfl) hg50 ?_
          first | (refine r_load1b 0 (hd 31 _ rfl rfl rfl) rfl rfl TF.agg9 rfl ?_) | (refine r_load1 (hd 31 _ rfl rfl rfl) TF.agg9 rfl ?_) | (refine r_load1b 1 (hd 31 _ rfl rfl rfl) rfl rfl TF.agg9 rfl ?_)
          exact awl_nil ⟨rfl, post_put⟩⟩⟩
        (by rfl) ?_
       refine g_run rfl rfl hg50 ?_
       refine r_str2 rfl rfl rfl rfl ?_
       refine g_run rfl rfl hg40 ?_
       refine r_pickT rfl hg50 rfl rfl ?_
       refine g_run rfl rfl hg28 ?_
       refine r_pickF rfl hg40 rfl rfl ?_
       refine r_pickT rfl hg28 rfl rfl ?_
       refine awl_nil ?_
       refine x_then ?_
       refine awp_cond rfl (fun hc2 => ?_) (fun hc2 => ?_)
       ·
        have hbad : okC d k = false := by simp only [okC, hx, hg21, hy, hbr, decide_eq_true hk0, pairF, hg40, hg50, hc2]; rfl
        refine awp_seq ?_
        refine awp_region ?_
        refine r_assign rfl rfl ?_
        refine awl_nil ?_
        refine x_then ?_
        refine awp_ret ?_
        refine x_thenR ?_
        refine x_blockR ?_
        refine x_thenR ?_
        refine x_thenR ?_
        refine x_blockR ?_
        refine x_thenR ?_
        exact ⟨(.inl rfl), _, [], (.one (by first | exact .mk rfl rfl | exact .nil rfl)), ⟨rfl, by first | (rw [right_bad hltx hbad]; rfl) | (rw [right_dup hx hs ((hm2 s).1 hc5)]; rfl) | (rw [right_good (fun i hi => hall i (by omega)) hnd]; rfl)⟩, (List.nil_sublist _), (by simp)⟩
       ·
        have hgood : okC d k = true := by simp only [okC, hx, hg21, hy, hbr, decide_eq_true hk0, pairF, hg40, hg50, hc2]; rfl
        refine awp_skip ?_
        refine x_then ?_
        refine awp_seq ?_
        refine awp_region ?_
        first | (refine r_fieldb rfl TF.f70_1 TF.sz9 rfl ?_) | (refine r_fieldcp rfl TF.f70_1 TF.sz9 rfl ?_)
        first | (refine r_load1b 0 rfl rfl rfl TF.agg9 rfl ?_) | (refine r_load1 rfl TF.agg9 rfl ?_) | (refine r_load1b 1 rfl rfl rfl TF.agg9 rfl ?_)
        refine r_lit 65 (parts := [(0, .tmp 64)]) rfl TF.sl54 TF.sz9 TF.zraw9 rfl rfl rfl rfl rfl rfl rfl ?_
        refine r_assign rfl rfl ?_
        refine awl_nil ?_
        refine x_then ?_
        refine awp_seq ?_
        refine awp_seq ?_
        refine awp_region ?_
        first | (refine r_fieldb rfl TF.f70_0 TF.sz3 rfl ?_) | (refine r_fieldcp rfl TF.f70_0 TF.sz3 rfl ?_)
        first | (refine r_load1b 0 rfl rfl rfl TF.agg3 rfl ?_) | (refine r_load1 rfl TF.agg3 rfl ?_) | (refine r_load1b 1 rfl rfl rfl TF.agg3 rfl ?_)
        refine r_cmp rfl rfl rfl rfl ?_
        refine awl_nil ?_
        refine x_then ?_
        refine awp_cond rfl (fun hc3 => ?_) (fun hc3 => ?_)
        ·
         have hns : namesC x = [x.name, x.to] := by simp [namesC, (eq_of_beq hc3 : x.kind = 4)]
         have hnsl : (namesC x).length ≤ 2 := by rw [hns]; simp
         refine awp_region ?_
         refine r_move rfl rfl ?_
         first | (refine r_fieldb rfl TF.f70_2 TF.sz9 rfl ?_) | (refine r_fieldcp rfl TF.f70_2 TF.sz9 rfl ?_)
         first | (refine r_load1b 0 rfl rfl rfl TF.agg9 rfl ?_) | (refine r_load1 rfl TF.agg9 rfl ?_) | (refine r_load1b 1 rfl rfl rfl TF.agg9 rfl ?_)
         refine r_lit 72 (parts := [(0, .tmp 71)]) rfl TF.sl54 TF.sz9 TF.zraw9 rfl rfl rfl rfl rfl rfl rfl ?_
         refine r_append 65 rfl (by first | exact .own _ | exact .nil) rfl (by first | exact .sl _ | exact .own _ _ | exact .nil) TF.sl54 TF.sz9 (by decide) TF.by9 TF.zlen9 (by simp [chunks] <;> omega) (by simp [chunks] <;> omega) rfl ?_
         refine r_assign rfl rfl ?_
         refine awl_nil ?_
         refine x_then ?_
         refine awp_seq ?_
         refine awp_region ?_
         refine r_move rfl rfl ?_
         first | (refine r_lenS rfl rfl TF.sl54 rfl ?_) | (refine r_lenNil rfl TF.sl54 rfl ?_) | (refine r_lenV rfl TF.sl54 rfl ?_)
         refine r_move rfl rfl ?_
         refine awl_nil ?_
         refine x_then ?_
         refine awp_block ?_
         refine awp_loop (fun nn0 S => ∃ j : Nat, ∃ m2 : List (ByteArray × Bool), S = ⟨87, [(0, .a (fcsA d)), (3, .a (.v (.map (some b9)))), (10, .a (fcsA d)), (11, .a (.v (.int .i64 ((d.map FC.cs).length)))), (12, .a (.v (.int .i64 ((k : Int))))), (74, .a (strsA (namesC x))), (75, .a (.v (.int .i64 (((namesC x).map (fun s : ByteArray => [AV.v (.string s)])).length)))), (76, .a (.v (.int .i64 ((j : Int)))))], [⟨b9, true, .map (encM Value.string boolA m2)⟩]⟩ ∧ nn0 = (namesC x).length - j ∧ (j ≤ (namesC x).length) ∧ (((d.take k).flatMap namesC ++ (namesC x).take j).Nodup) ∧ (HasS m2 ((d.take k).flatMap namesC ++ (namesC x).take j))) ((namesC x).length - (0)) ⟨87, [(0, .a (fcsA d)), (3, .a (.v (.map (some b9)))), (10, .a (fcsA d)), (11, .a (.v (.int .i64 ((d.map FC.cs).length)))), (12, .a (.v (.int .i64 ((k : Int))))), (74, .a (strsA (namesC x))), (75, .a (.v (.int .i64 (((namesC x).map (fun s : ByteArray => [AV.v (.string s)])).length)))), (76, .a (.v (.int .i64 (((0) : Int)))))], [⟨b9, true, .map (encM Value.string boolA (m))⟩]⟩ ⟨rfl, (Slots.cons rfl (by first | exact .refl _ | exact .nilOwn _ _ | exact .nilSl _ | exact .ownSl _ _ _  | exact SV.le.ownEq (by first | rfl | (rw [hns]; rfl) | (rw [hns]; simp [chunks])) | exact SV.le.of_eq (by first | rfl | (rw [hns]; rfl) | (rw [hns]; simp [chunks]))) (Slots.cons rfl (by first | exact .refl _ | exact .nilOwn _ _ | exact .nilSl _ | exact .ownSl _ _ _  | exact SV.le.ownEq (by first | rfl | (rw [hns]; rfl) | (rw [hns]; simp [chunks])) | exact SV.le.of_eq (by first | rfl | (rw [hns]; rfl) | (rw [hns]; simp [chunks]))) (Slots.cons rfl (by first | exact .refl _ | exact .nilOwn _ _ | exact .nilSl _ | exact .ownSl _ _ _  | exact SV.le.ownEq (by first | rfl | (rw [hns]; rfl) | (rw [hns]; simp [chunks])) | exact SV.le.of_eq (by first | rfl | (rw [hns]; rfl) | (rw [hns]; simp [chunks]))) (Slots.cons rfl (by first | exact .refl _ | exact .nilOwn _ _ | exact .nilSl _ | exact .ownSl _ _ _  | exact SV.le.ownEq (by first | rfl | (rw [hns]; rfl) | (rw [hns]; simp [chunks])) | exact SV.le.of_eq (by first | rfl | (rw [hns]; rfl) | (rw [hns]; simp [chunks]))) (Slots.cons rfl (by first | exact .refl _ | exact .nilOwn _ _ | exact .nilSl _ | exact .ownSl _ _ _  | exact SV.le.ownEq (by first | rfl | (rw [hns]; rfl) | (rw [hns]; simp [chunks])) | exact SV.le.of_eq (by first | rfl | (rw [hns]; rfl) | (rw [hns]; simp [chunks]))) (Slots.cons rfl (by first | exact .refl _ | exact .nilOwn _ _ | exact .nilSl _ | exact .ownSl _ _ _  | exact SV.le.ownEq (by first | rfl | (rw [hns]; rfl) | (rw [hns]; simp [chunks])) | exact SV.le.of_eq (by first | rfl | (rw [hns]; rfl) | (rw [hns]; simp [chunks]))) (Slots.cons rfl (by first | exact .refl _ | exact .nilOwn _ _ | exact .nilSl _ | exact .ownSl _ _ _  | exact SV.le.ownEq (by first | rfl | (rw [hns]; rfl) | (rw [hns]; simp [chunks])) | exact SV.le.of_eq (by first | rfl | (rw [hns]; rfl) | (rw [hns]; simp [chunks]))) (Slots.cons rfl (by first | exact .refl _ | exact .nilOwn _ _ | exact .nilSl _ | exact .ownSl _ _ _  | exact SV.le.ownEq (by first | rfl | (rw [hns]; rfl) | (rw [hns]; simp [chunks])) | exact SV.le.of_eq (by first | rfl | (rw [hns]; rfl) | (rw [hns]; simp [chunks]))) Slots.nil)))))))), (by first | exact List.Sublist.refl _ | exact .cons_cons _ (.cons _ (.refl _)) | exact List.nil_sublist _ | exact .cons _ (.refl _) | exact .cons _ (.cons _ (.refl _)) | exact .cons _ (.cons _ (.cons _ (.refl _))) | exact .cons _ (.cons _ (.cons _ (.cons _ (.refl _)))) | exact .cons_cons _ (List.nil_sublist _))⟩ ⟨0, m, rfl, rfl, Nat.zero_le _, (by simpa using hnd), (by simpa using hm)⟩ ?_
         rintro nn0 _ ⟨j, m2, rfl, rfl, hj, hn2, hm2⟩
         refine awp_seq ?_
         refine awp_region ?_
         refine r_cmp rfl rfl rfl rfl ?_
         refine awl_nil ?_
         refine x_then ?_
         refine awp_seq ?_
         refine awp_cond rfl (fun hc4 => ?_) (fun hc4 => ?_)
         ·
          have hlts : j < (namesC x).length := by have := of_decide_eq_true hc4; rw [List.length_map] at this; omega
          obtain ⟨s, hs⟩ := get_lt hlts
          refine awp_skip ?_
          refine x_then ?_
          refine awp_seq ?_
          refine awp_block ?_
          refine awp_seq ?_
          refine awp_region ?_
          refine r_index rfl rfl rfl TF.sl54 TF.sz9 (by omega) (get_map hs) rfl ?_
          first | (refine r_load1b 0 rfl rfl rfl TF.agg9 rfl ?_) | (refine r_load1 rfl TF.agg9 rfl ?_)
          refine r_assign rfl rfl ?_
          refine awl_nil ?_
          refine x_then ?_
          refine awp_seq ?_
          refine awp_seq ?_
          refine awp_region ?_
          refine r_move rfl rfl ?_
          refine r_move rfl rfl ?_
          refine r_lookup 0 (keyEnc_string TF.un9) (ev := boolA) false rfl rfl rfl TF.map100 TF.zav4 rfl ?_
          refine awl_nil ?_
          refine x_then ?_
          refine awp_cond rfl (fun hc5 => ?_) (fun hc5 => ?_)
          ·
           refine awp_seq ?_
           refine awp_region ?_
           refine r_assign rfl rfl ?_
           refine awl_nil ?_
           refine x_then ?_
           refine awp_ret ?_
           refine x_thenR ?_
           refine x_blockR ?_
           refine x_thenR ?_
           refine x_thenR ?_
           refine x_blockR ?_
           refine x_blockR ?_
           refine x_thenR ?_
           refine x_thenR ?_
           refine x_blockR ?_
           refine x_thenR ?_
           exact ⟨(.inl rfl), _, [], (.one (by first | exact .mk rfl rfl | exact .nil rfl)), ⟨rfl, by first | (rw [right_bad hltx hbad]; rfl) | (rw [right_dup hx hs ((hm2 s).1 hc5)]; rfl) | (rw [right_good (fun i hi => hall i (by omega)) hnd]; rfl)⟩, (List.nil_sublist _), (by simp)⟩
          ·
           refine awp_skip ?_
           refine x_then ?_
           refine awp_region ?_
           refine r_move rfl rfl ?_
           refine r_move rfl rfl ?_
           refine r_mapUpdate 0 (keyEnc_string TF.un9) (ev := boolA) true rfl rfl rfl rfl rfl TF.map100 ?_
           refine awl_nil ?_
           refine x_block ?_
           refine x_then ?_
           refine awp_region ?_
           refine r_ari _ rfl rfl rfl (wrap_id (by first | omega | (simp; omega))) rfl ?_
           refine r_move rfl rfl ?_
           refine awl_nil ?_
           refine x_then ?_
           refine ⟨(namesC x).length - (j + 1), ⟨87, [(0, .a (fcsA d)), (3, .a (.v (.map (some b9)))), (10, .a (fcsA d)), (11, .a (.v (.int .i64 ((d.map FC.cs).length)))), (12, .a (.v (.int .i64 ((k : Int))))), (74, .a (strsA (namesC x))), (75, .a (.v (.int .i64 (((namesC x).map (fun s : ByteArray => [AV.v (.string s)])).length)))), (76, .a (.v (.int .i64 (((j + 1) : Int)))))], [⟨b9, true, .map (encM Value.string boolA ((mset m2 s true)))⟩]⟩, ⟨rfl, (Slots.cons rfl (by first | exact .refl _ | exact .nilOwn _ _ | exact .nilSl _ | exact .ownSl _ _ _  | exact SV.le.of_eq (by simp)) (Slots.cons rfl (by first | exact .refl _ | exact .nilOwn _ _ | exact .nilSl _ | exact .ownSl _ _ _  | exact SV.le.of_eq (by simp)) (Slots.cons rfl (by first | exact .refl _ | exact .nilOwn _ _ | exact .nilSl _ | exact .ownSl _ _ _  | exact SV.le.of_eq (by simp)) (Slots.cons rfl (by first | exact .refl _ | exact .nilOwn _ _ | exact .nilSl _ | exact .ownSl _ _ _  | exact SV.le.of_eq (by simp)) (Slots.cons rfl (by first | exact .refl _ | exact .nilOwn _ _ | exact .nilSl _ | exact .ownSl _ _ _  | exact SV.le.of_eq (by simp)) (Slots.cons rfl (by first | exact .refl _ | exact .nilOwn _ _ | exact .nilSl _ | exact .ownSl _ _ _  | exact SV.le.of_eq (by simp)) (Slots.cons rfl (by first | exact .refl _ | exact .nilOwn _ _ | exact .nilSl _ | exact .ownSl _ _ _  | exact SV.le.of_eq (by simp)) (Slots.cons rfl (by first | exact .refl _ | exact .nilOwn _ _ | exact .nilSl _ | exact .ownSl _ _ _  | exact SV.le.of_eq (by simp)) Slots.nil)))))))), (by first | exact List.Sublist.refl _ | exact .cons_cons _ (.cons _ (.refl _)) | exact List.nil_sublist _ | exact .cons _ (.refl _) | exact .cons _ (.cons _ (.refl _)) | exact .cons _ (.cons _ (.cons _ (.refl _))) | exact .cons _ (.cons _ (.cons _ (.cons _ (.refl _)))) | exact .cons_cons _ (List.nil_sublist _))⟩, (by omega), ⟨j + 1, (mset m2 s true), rfl, rfl, (by omega), (by rw [takeS hs, ← List.append_assoc]; exact nodup_snoc hn2 (fun h => by rw [(hm2 s).2 h] at hc5; cases hc5)), (by rw [takeS hs, ← List.append_assoc]; exact hasS_set hm2)⟩⟩
         ·
          have hge : (namesC x).length ≤ j := by have := of_decide_eq_false hc4; rw [List.length_map] at this; omega
          rw [List.take_of_length_le hge, ← names_take hx] at hn2 hm2
          refine awp_exit ?_
          refine x_thenE ?_
          refine x_thenE ?_
          refine x_blockE ?_
          refine x_block ?_
          refine x_then ?_
          refine awp_region ?_
          refine r_ari _ rfl rfl rfl (wrap_id (by first | omega | (simp; omega))) rfl ?_
          refine r_move rfl rfl ?_
          refine awl_nil ?_
          refine x_then ?_
          refine ⟨d.length - (k + 1), ⟨87, [(0, .a (fcsA d)), (3, .a (.v (.map (some b9)))), (10, .a (fcsA d)), (11, .a (.v (.int .i64 ((d.map FC.cs).length)))), (12, .a (.v (.int .i64 (((k + 1) : Int)))))], [⟨b9, true, .map (encM Value.string boolA (m2))⟩]⟩, ⟨rfl, (Slots.cons rfl (by first | exact .refl _ | exact .nilOwn _ _ | exact .nilSl _ | exact .ownSl _ _ _  | exact SV.le.of_eq (by simp)) (Slots.cons rfl (by first | exact .refl _ | exact .nilOwn _ _ | exact .nilSl _ | exact .ownSl _ _ _  | exact SV.le.of_eq (by simp)) (Slots.cons rfl (by first | exact .refl _ | exact .nilOwn _ _ | exact .nilSl _ | exact .ownSl _ _ _  | exact SV.le.of_eq (by simp)) (Slots.cons rfl (by first | exact .refl _ | exact .nilOwn _ _ | exact .nilSl _ | exact .ownSl _ _ _  | exact SV.le.of_eq (by simp)) (Slots.cons rfl (by first | exact .refl _ | exact .nilOwn _ _ | exact .nilSl _ | exact .ownSl _ _ _  | exact SV.le.of_eq (by simp)) Slots.nil))))), (by first | exact List.Sublist.refl _ | exact .cons_cons _ (.cons _ (.refl _)) | exact List.nil_sublist _ | exact .cons _ (.refl _) | exact .cons _ (.cons _ (.refl _)) | exact .cons _ (.cons _ (.cons _ (.refl _))) | exact .cons _ (.cons _ (.cons _ (.cons _ (.refl _)))) | exact .cons_cons _ (List.nil_sublist _))⟩, (by omega), ⟨k + 1, m2, rfl, rfl, (by omega), (fun i hi => by rcases Nat.lt_succ_iff_lt_or_eq.1 hi with h | rfl; exact hall i h; exact hgood), hn2, hm2⟩⟩
        ·
         have hns : namesC x = [x.name] := by simp [namesC, (by simpa using hc3 : ¬ x.kind = 4)]
         have hnsl : (namesC x).length ≤ 2 := by rw [hns]; simp
         refine awp_skip ?_
         refine x_then ?_
         refine awp_seq ?_
         refine awp_region ?_
         refine r_move rfl rfl ?_
         first | (refine r_lenS rfl rfl TF.sl54 rfl ?_) | (refine r_lenNil rfl TF.sl54 rfl ?_) | (refine r_lenV rfl TF.sl54 rfl ?_)
         refine r_move rfl rfl ?_
         refine awl_nil ?_
         refine x_then ?_
         refine awp_block ?_
         refine awp_loop (fun nn0 S => ∃ j : Nat, ∃ m2 : List (ByteArray × Bool), S = ⟨87, [(0, .a (fcsA d)), (3, .a (.v (.map (some b9)))), (10, .a (fcsA d)), (11, .a (.v (.int .i64 ((d.map FC.cs).length)))), (12, .a (.v (.int .i64 ((k : Int))))), (74, .a (strsA (namesC x))), (75, .a (.v (.int .i64 (((namesC x).map (fun s : ByteArray => [AV.v (.string s)])).length)))), (76, .a (.v (.int .i64 ((j : Int)))))], [⟨b9, true, .map (encM Value.string boolA m2)⟩]⟩ ∧ nn0 = (namesC x).length - j ∧ (j ≤ (namesC x).length) ∧ (((d.take k).flatMap namesC ++ (namesC x).take j).Nodup) ∧ (HasS m2 ((d.take k).flatMap namesC ++ (namesC x).take j))) ((namesC x).length - (0)) ⟨87, [(0, .a (fcsA d)), (3, .a (.v (.map (some b9)))), (10, .a (fcsA d)), (11, .a (.v (.int .i64 ((d.map FC.cs).length)))), (12, .a (.v (.int .i64 ((k : Int))))), (74, .a (strsA (namesC x))), (75, .a (.v (.int .i64 (((namesC x).map (fun s : ByteArray => [AV.v (.string s)])).length)))), (76, .a (.v (.int .i64 (((0) : Int)))))], [⟨b9, true, .map (encM Value.string boolA (m))⟩]⟩ ⟨rfl, (Slots.cons rfl (by first | exact .refl _ | exact .nilOwn _ _ | exact .nilSl _ | exact .ownSl _ _ _  | exact SV.le.ownEq (by first | rfl | (rw [hns]; rfl) | (rw [hns]; simp [chunks])) | exact SV.le.of_eq (by first | rfl | (rw [hns]; rfl) | (rw [hns]; simp [chunks]))) (Slots.cons rfl (by first | exact .refl _ | exact .nilOwn _ _ | exact .nilSl _ | exact .ownSl _ _ _  | exact SV.le.ownEq (by first | rfl | (rw [hns]; rfl) | (rw [hns]; simp [chunks])) | exact SV.le.of_eq (by first | rfl | (rw [hns]; rfl) | (rw [hns]; simp [chunks]))) (Slots.cons rfl (by first | exact .refl _ | exact .nilOwn _ _ | exact .nilSl _ | exact .ownSl _ _ _  | exact SV.le.ownEq (by first | rfl | (rw [hns]; rfl) | (rw [hns]; simp [chunks])) | exact SV.le.of_eq (by first | rfl | (rw [hns]; rfl) | (rw [hns]; simp [chunks]))) (Slots.cons rfl (by first | exact .refl _ | exact .nilOwn _ _ | exact .nilSl _ | exact .ownSl _ _ _  | exact SV.le.ownEq (by first | rfl | (rw [hns]; rfl) | (rw [hns]; simp [chunks])) | exact SV.le.of_eq (by first | rfl | (rw [hns]; rfl) | (rw [hns]; simp [chunks]))) (Slots.cons rfl (by first | exact .refl _ | exact .nilOwn _ _ | exact .nilSl _ | exact .ownSl _ _ _  | exact SV.le.ownEq (by first | rfl | (rw [hns]; rfl) | (rw [hns]; simp [chunks])) | exact SV.le.of_eq (by first | rfl | (rw [hns]; rfl) | (rw [hns]; simp [chunks]))) (Slots.cons rfl (by first | exact .refl _ | exact .nilOwn _ _ | exact .nilSl _ | exact .ownSl _ _ _  | exact SV.le.ownEq (by first | rfl | (rw [hns]; rfl) | (rw [hns]; simp [chunks])) | exact SV.le.of_eq (by first | rfl | (rw [hns]; rfl) | (rw [hns]; simp [chunks]))) (Slots.cons rfl (by first | exact .refl _ | exact .nilOwn _ _ | exact .nilSl _ | exact .ownSl _ _ _  | exact SV.le.ownEq (by first | rfl | (rw [hns]; rfl) | (rw [hns]; simp [chunks])) | exact SV.le.of_eq (by first | rfl | (rw [hns]; rfl) | (rw [hns]; simp [chunks]))) (Slots.cons rfl (by first | exact .refl _ | exact .nilOwn _ _ | exact .nilSl _ | exact .ownSl _ _ _  | exact SV.le.ownEq (by first | rfl | (rw [hns]; rfl) | (rw [hns]; simp [chunks])) | exact SV.le.of_eq (by first | rfl | (rw [hns]; rfl) | (rw [hns]; simp [chunks]))) Slots.nil)))))))), (by first | exact List.Sublist.refl _ | exact .cons_cons _ (.cons _ (.refl _)) | exact List.nil_sublist _ | exact .cons _ (.refl _) | exact .cons _ (.cons _ (.refl _)) | exact .cons _ (.cons _ (.cons _ (.refl _))) | exact .cons _ (.cons _ (.cons _ (.cons _ (.refl _)))) | exact .cons_cons _ (List.nil_sublist _))⟩ ⟨0, m, rfl, rfl, Nat.zero_le _, (by simpa using hnd), (by simpa using hm)⟩ ?_
         rintro nn0 _ ⟨j, m2, rfl, rfl, hj, hn2, hm2⟩
         refine awp_seq ?_
         refine awp_region ?_
         refine r_cmp rfl rfl rfl rfl ?_
         refine awl_nil ?_
         refine x_then ?_
         refine awp_seq ?_
         refine awp_cond rfl (fun hc4 => ?_) (fun hc4 => ?_)
         ·
          have hlts : j < (namesC x).length := by have := of_decide_eq_true hc4; rw [List.length_map] at this; omega
          obtain ⟨s, hs⟩ := get_lt hlts
          refine awp_skip ?_
          refine x_then ?_
          refine awp_seq ?_
          refine awp_block ?_
          refine awp_seq ?_
          refine awp_region ?_
          refine r_index rfl rfl rfl TF.sl54 TF.sz9 (by omega) (get_map hs) rfl ?_
          first | (refine r_load1b 0 rfl rfl rfl TF.agg9 rfl ?_) | (refine r_load1 rfl TF.agg9 rfl ?_)
          refine r_assign rfl rfl ?_
          refine awl_nil ?_
          refine x_then ?_
          refine awp_seq ?_
          refine awp_seq ?_
          refine awp_region ?_
          refine r_move rfl rfl ?_
          refine r_move rfl rfl ?_
          refine r_lookup 0 (keyEnc_string TF.un9) (ev := boolA) false rfl rfl rfl TF.map100 TF.zav4 rfl ?_
          refine awl_nil ?_
          refine x_then ?_
          refine awp_cond rfl (fun hc5 => ?_) (fun hc5 => ?_)
          ·
           refine awp_seq ?_
           refine awp_region ?_
           refine r_assign rfl rfl ?_
           refine awl_nil ?_
           refine x_then ?_
           refine awp_ret ?_
           refine x_thenR ?_
           refine x_blockR ?_
           refine x_thenR ?_
           refine x_thenR ?_
           refine x_blockR ?_
           refine x_blockR ?_
           refine x_thenR ?_
           refine x_thenR ?_
           refine x_blockR ?_
           refine x_thenR ?_
           exact ⟨(.inl rfl), _, [], (.one (by first | exact .mk rfl rfl | exact .nil rfl)), ⟨rfl, by first | (rw [right_bad hltx hbad]; rfl) | (rw [right_dup hx hs ((hm2 s).1 hc5)]; rfl) | (rw [right_good (fun i hi => hall i (by omega)) hnd]; rfl)⟩, (List.nil_sublist _), (by simp)⟩
          ·
           refine awp_skip ?_
           refine x_then ?_
           refine awp_region ?_
           refine r_move rfl rfl ?_
           refine r_move rfl rfl ?_
           refine r_mapUpdate 0 (keyEnc_string TF.un9) (ev := boolA) true rfl rfl rfl rfl rfl TF.map100 ?_
           refine awl_nil ?_
           refine x_block ?_
           refine x_then ?_
           refine awp_region ?_
           refine r_ari _ rfl rfl rfl (wrap_id (by first | omega | (simp; omega))) rfl ?_
           refine r_move rfl rfl ?_
           refine awl_nil ?_
           refine x_then ?_
           refine ⟨(namesC x).length - (j + 1), ⟨87, [(0, .a (fcsA d)), (3, .a (.v (.map (some b9)))), (10, .a (fcsA d)), (11, .a (.v (.int .i64 ((d.map FC.cs).length)))), (12, .a (.v (.int .i64 ((k : Int))))), (74, .a (strsA (namesC x))), (75, .a (.v (.int .i64 (((namesC x).map (fun s : ByteArray => [AV.v (.string s)])).length)))), (76, .a (.v (.int .i64 (((j + 1) : Int)))))], [⟨b9, true, .map (encM Value.string boolA ((mset m2 s true)))⟩]⟩, ⟨rfl, (Slots.cons rfl (by first | exact .refl _ | exact .nilOwn _ _ | exact .nilSl _ | exact .ownSl _ _ _  | exact SV.le.of_eq (by simp)) (Slots.cons rfl (by first | exact .refl _ | exact .nilOwn _ _ | exact .nilSl _ | exact .ownSl _ _ _  | exact SV.le.of_eq (by simp)) (Slots.cons rfl (by first | exact .refl _ | exact .nilOwn _ _ | exact .nilSl _ | exact .ownSl _ _ _  | exact SV.le.of_eq (by simp)) (Slots.cons rfl (by first | exact .refl _ | exact .nilOwn _ _ | exact .nilSl _ | exact .ownSl _ _ _  | exact SV.le.of_eq (by simp)) (Slots.cons rfl (by first | exact .refl _ | exact .nilOwn _ _ | exact .nilSl _ | exact .ownSl _ _ _  | exact SV.le.of_eq (by simp)) (Slots.cons rfl (by first | exact .refl _ | exact .nilOwn _ _ | exact .nilSl _ | exact .ownSl _ _ _  | exact SV.le.of_eq (by simp)) (Slots.cons rfl (by first | exact .refl _ | exact .nilOwn _ _ | exact .nilSl _ | exact .ownSl _ _ _  | exact SV.le.of_eq (by simp)) (Slots.cons rfl (by first | exact .refl _ | exact .nilOwn _ _ | exact .nilSl _ | exact .ownSl _ _ _  | exact SV.le.of_eq (by simp)) Slots.nil)))))))), (by first | exact List.Sublist.refl _ | exact .cons_cons _ (.cons _ (.refl _)) | exact List.nil_sublist _ | exact .cons _ (.refl _) | exact .cons _ (.cons _ (.refl _)) | exact .cons _ (.cons _ (.cons _ (.refl _))) | exact .cons _ (.cons _ (.cons _ (.cons _ (.refl _)))) | exact .cons_cons _ (List.nil_sublist _))⟩, (by omega), ⟨j + 1, (mset m2 s true), rfl, rfl, (by omega), (by rw [takeS hs, ← List.append_assoc]; exact nodup_snoc hn2 (fun h => by rw [(hm2 s).2 h] at hc5; cases hc5)), (by rw [takeS hs, ← List.append_assoc]; exact hasS_set hm2)⟩⟩
         ·
          have hge : (namesC x).length ≤ j := by have := of_decide_eq_false hc4; rw [List.length_map] at this; omega
          rw [List.take_of_length_le hge, ← names_take hx] at hn2 hm2
          refine awp_exit ?_
          refine x_thenE ?_
          refine x_thenE ?_
          refine x_blockE ?_
          refine x_block ?_
          refine x_then ?_
          refine awp_region ?_
          refine r_ari _ rfl rfl rfl (wrap_id (by first | omega | (simp; omega))) rfl ?_
          refine r_move rfl rfl ?_
          refine awl_nil ?_
          refine x_then ?_
          refine ⟨d.length - (k + 1), ⟨87, [(0, .a (fcsA d)), (3, .a (.v (.map (some b9)))), (10, .a (fcsA d)), (11, .a (.v (.int .i64 ((d.map FC.cs).length)))), (12, .a (.v (.int .i64 (((k + 1) : Int)))))], [⟨b9, true, .map (encM Value.string boolA (m2))⟩]⟩, ⟨rfl, (Slots.cons rfl (by first | exact .refl _ | exact .nilOwn _ _ | exact .nilSl _ | exact .ownSl _ _ _  | exact SV.le.of_eq (by simp)) (Slots.cons rfl (by first | exact .refl _ | exact .nilOwn _ _ | exact .nilSl _ | exact .ownSl _ _ _  | exact SV.le.of_eq (by simp)) (Slots.cons rfl (by first | exact .refl _ | exact .nilOwn _ _ | exact .nilSl _ | exact .ownSl _ _ _  | exact SV.le.of_eq (by simp)) (Slots.cons rfl (by first | exact .refl _ | exact .nilOwn _ _ | exact .nilSl _ | exact .ownSl _ _ _  | exact SV.le.of_eq (by simp)) (Slots.cons rfl (by first | exact .refl _ | exact .nilOwn _ _ | exact .nilSl _ | exact .ownSl _ _ _  | exact SV.le.of_eq (by simp)) Slots.nil))))), (by first | exact List.Sublist.refl _ | exact .cons_cons _ (.cons _ (.refl _)) | exact List.nil_sublist _ | exact .cons _ (.refl _) | exact .cons _ (.cons _ (.refl _)) | exact .cons _ (.cons _ (.cons _ (.refl _))) | exact .cons _ (.cons _ (.cons _ (.cons _ (.refl _)))) | exact .cons_cons _ (List.nil_sublist _))⟩, (by omega), ⟨k + 1, m2, rfl, rfl, (by omega), (fun i hi => by rcases Nat.lt_succ_iff_lt_or_eq.1 hi with h | rfl; exact hall i h; exact hgood), hn2, hm2⟩⟩
      ·
       have hgood : okC d k = true := by simp only [okC, hx, hg21, hy, hbr, decide_eq_true hk0, pairF, hg40, hg50]; rfl
       refine awp_drawS [26, 27, 28, 29, 30, 31, 32, 33, 34, 35, 36, 37, 38, 39, 40, 41, 42, 43, 44, 45, 46, 47, 48, 49, 50, 51, 52, 53, 54, 55, 56, 57, 58] [_, _, _, _, _, _, _, _, _, _, _, _, _, _, _, _, _, _, _, _, _, _, _, _, _, _, _, _, _, _, _, _, _] [] [] TF.mixed rfl rfl rfl ⟨⟨⟨⟨⟨⟨⟨⟨⟨⟨⟨⟨⟨⟨⟨⟨⟨⟨⟨⟨⟨⟨⟨⟨⟨⟨⟨⟨⟨⟨⟨⟨⟨trivial
        , ⟨_, rfl, fun sl hd hr ho => by
          refine r_move (hr 4 _ rfl rfl rfl) rfl ?_
          exact awl_nil ⟨rfl, post_put⟩⟩⟩
        , ⟨_, rfl, fun sl hd hr ho => by
          refine r_cmp (hd 0 _ rfl rfl rfl) rfl rfl rfl ?_
          exact awl_nil ⟨rfl, post_put⟩⟩⟩
        , ⟨_, rfl, fun sl hd hr ho => by
          refine r_move (hd 1 _ rfl rfl rfl) rfl ?_
          exact awl_nil ⟨rfl, post_put⟩⟩⟩
        , ⟨_, rfl, fun sl hd hr ho => by
          refine g_run rfl (hd 2 _ rfl rfl rfl) hg28 ?_
          refine r_move (hr 0 _ rfl rfl rfl) rfl ?_
          exact awl_nil ⟨rfl, post_put⟩⟩⟩
        , ⟨_, rfl, fun sl hd hr ho => by
          refine g_run rfl (hd 2 _ rfl rfl rfl) hg28 ?_
          refine r_move (hr 4 _ rfl rfl rfl) rfl ?_
          exact awl_nil ⟨rfl, post_put⟩⟩⟩
        , ⟨_, rfl, fun sl hd hr ho => by
          refine g_run rfl (hd 2 _ rfl rfl rfl) hg28 ?_
          refine r_ari _ (hd 4 _ rfl rfl rfl) rfl rfl (wrap_id (by first | omega | (simp; omega))) rfl ?_
          exact awl_nil ⟨rfl, post_put⟩⟩⟩
        , ⟨_, rfl, fun sl hd hr ho => by
          refine g_run rfl (hd 2 _ rfl rfl rfl) hg28 ?_
          refine r_index (hd 3 _ rfl rfl rfl) rfl (hd 5 _ rfl rfl rfl) TF.sl57 TF.sz70 (by omega) (by rw [show ((k : Int) - 1).toNat = k - 1 by omega]; exact get_map hy) rfl ?_
          exact awl_nil ⟨rfl, post_put⟩⟩⟩
        , ⟨_, rfl, fun sl hd hr ho => by
          refine g_run rfl (hd 2 _ rfl rfl rfl) hg28 ?_
          first | (refine r_fieldb (hd 6 _ rfl rfl rfl) TF.f70_0 TF.sz3 rfl ?_) | (refine r_fieldcp (hd 6 _ rfl rfl rfl) TF.f70_0 TF.sz3 rfl ?_)
          exact awl_nil ⟨rfl, post_put⟩⟩⟩
        , ⟨_, rfl, fun sl hd hr ho => by
          refine g_run rfl (hd 2 _ rfl rfl rfl) hg28 ?_
          first | (refine r_load1b 0 (hd 7 _ rfl rfl rfl) rfl rfl TF.agg3 rfl ?_) | (refine r_load1 (hd 7 _ rfl rfl rfl) TF.agg3 rfl ?_) | (refine r_load1b 1 (hd 7 _ rfl rfl rfl) rfl rfl TF.agg3 rfl ?_)
          exact awl_nil ⟨rfl, post_put⟩⟩⟩
        , ⟨_, rfl, fun sl hd hr ho => by
          refine g_run rfl (hd 2 _ rfl rfl rfl) hg28 ?_
          refine r_call0 hq rfl rfl (.cons (.ev (hd 8 _ rfl rfl rfl) rfl) .nil) (rank_ok y.kind) rfl TF.en89 rfl (fun r hr => ?_)
          obtain rfl := hr
          exact awl_nil ⟨rfl, post_put⟩⟩⟩
        , ⟨_, rfl, fun sl hd hr ho => by
          refine g_run rfl (hd 2 _ rfl rfl rfl) hg28 ?_
          first | (refine r_fieldb (hr 5 _ rfl rfl rfl) TF.f70_0 TF.sz3 rfl ?_) | (refine r_fieldcp (hr 5 _ rfl rfl rfl) TF.f70_0 TF.sz3 rfl ?_)
          exact awl_nil ⟨rfl, post_put⟩⟩⟩
        , ⟨_, rfl, fun sl hd hr ho => by
          refine g_run rfl (hd 2 _ rfl rfl rfl) hg28 ?_
          first | (refine r_load1b 0 (hd 10 _ rfl rfl rfl) rfl rfl TF.agg3 rfl ?_) | (refine r_load1 (hd 10 _ rfl rfl rfl) TF.agg3 rfl ?_) | (refine r_load1b 1 (hd 10 _ rfl rfl rfl) rfl rfl TF.agg3 rfl ?_)
          exact awl_nil ⟨rfl, post_put⟩⟩⟩
        , ⟨_, rfl, fun sl hd hr ho => by
          refine g_run rfl (hd 2 _ rfl rfl rfl) hg28 ?_
          refine r_call0 hq rfl rfl (.cons (.ev (hd 11 _ rfl rfl rfl) rfl) .nil) (rank_ok x.kind) rfl TF.en89 rfl (fun r hr => ?_)
          obtain rfl := hr
          exact awl_nil ⟨rfl, post_put⟩⟩⟩
        , ⟨_, rfl, fun sl hd hr ho => by
          refine g_run rfl (hd 2 _ rfl rfl rfl) hg28 ?_
          refine r_cmp (hd 9 _ rfl rfl rfl) (hd 12 _ rfl rfl rfl) rfl rfl ?_
          exact awl_nil ⟨rfl, post_put⟩⟩⟩
        , ⟨_, rfl, fun sl hd hr ho => by
          refine g_run rfl (hd 2 _ rfl rfl rfl) hg28 ?_
          refine r_move (hd 13 _ rfl rfl rfl) rfl ?_
          exact awl_nil ⟨rfl, post_put⟩⟩⟩
        , ⟨_, rfl, fun sl hd hr ho => by
          refine g_run rfl (hd 14 _ rfl rfl rfl) hg40 ?_
          refine r_move (hr 0 _ rfl rfl rfl) rfl ?_
          exact awl_nil ⟨rfl, post_put⟩⟩⟩
        , ⟨_, rfl, fun sl hd hr ho => by
          refine g_run rfl (hd 14 _ rfl rfl rfl) hg40 ?_
          refine r_move (hr 4 _ rfl rfl rfl) rfl ?_
          exact awl_nil ⟨rfl, post_put⟩⟩⟩
        , ⟨_, rfl, fun sl hd hr ho => by
          refine g_run rfl (hd 14 _ rfl rfl rfl) hg40 ?_
          refine r_ari _ (hd 16 _ rfl rfl rfl) rfl rfl (wrap_id (by first | omega | (simp; omega))) rfl ?_
          exact awl_nil ⟨rfl, post_put⟩⟩⟩
        , ⟨_, rfl, fun sl hd hr ho => by
          refine g_run rfl (hd 14 _ rfl rfl rfl) hg40 ?_
          refine r_index (hd 15 _ rfl rfl rfl) rfl (hd 17 _ rfl rfl rfl) TF.sl57 TF.sz70 (by omega) (by rw [show ((k : Int) - 1).toNat = k - 1 by omega]; exact get_map hy) rfl ?_
          exact awl_nil ⟨rfl, post_put⟩⟩⟩
        , ⟨_, rfl, fun sl hd hr ho => by
          refine g_run rfl (hd 14 _ rfl rfl rfl) hg40 ?_
          first | (refine r_fieldb (hd 18 _ rfl rfl rfl) TF.f70_0 TF.sz3 rfl ?_) | (refine r_fieldcp (hd 18 _ rfl rfl rfl) TF.f70_0 TF.sz3 rfl ?_)
          exact awl_nil ⟨rfl, post_put⟩⟩⟩
        , ⟨_, rfl, fun sl hd hr ho => by
          refine g_run rfl (hd 14 _ rfl rfl rfl) hg40 ?_
          first | (refine r_load1b 0 (hd 19 _ rfl rfl rfl) rfl rfl TF.agg3 rfl ?_) | (refine r_load1 (hd 19 _ rfl rfl rfl) TF.agg3 rfl ?_) | (refine r_load1b 1 (hd 19 _ rfl rfl rfl) rfl rfl TF.agg3 rfl ?_)
          exact awl_nil ⟨rfl, post_put⟩⟩⟩
        , ⟨_, rfl, fun sl hd hr ho => by
          refine g_run rfl (hd 14 _ rfl rfl rfl) hg40 ?_
          first | (refine r_fieldb (hr 5 _ rfl rfl rfl) TF.f70_0 TF.sz3 rfl ?_) | (refine r_fieldcp (hr 5 _ rfl rfl rfl) TF.f70_0 TF.sz3 rfl ?_)
          exact awl_nil ⟨rfl, post_put⟩⟩⟩
        , ⟨_, rfl, fun sl hd hr ho => by
          refine g_run rfl (hd 14 _ rfl rfl rfl) hg40 ?_
          first | (refine r_load1b 0 (hd 21 _ rfl rfl rfl) rfl rfl TF.agg3 rfl ?_) | (refine r_load1 (hd 21 _ rfl rfl rfl) TF.agg3 rfl ?_) | (refine r_load1b 1 (hd 21 _ rfl rfl rfl) rfl rfl TF.agg3 rfl ?_)
          exact awl_nil ⟨rfl, post_put⟩⟩⟩
        , ⟨_, rfl, fun sl hd hr ho => by
          refine g_run rfl (hd 14 _ rfl rfl rfl) hg40 ?_
          refine r_cmp (hd 20 _ rfl rfl rfl) (hd 22 _ rfl rfl rfl) rfl rfl ?_
          exact awl_nil ⟨rfl, post_put⟩⟩⟩
        , ⟨_, rfl, fun sl hd hr ho => by
          refine g_run rfl (hd 14 _ rfl rfl rfl) hg40 ?_
          refine r_move (hd 23 _ rfl rfl rfl) rfl ?_
          exact awl_nil ⟨rfl, post_put⟩⟩⟩
        , ⟨_, rfl, fun sl hd hr ho => by
          refine g_skip rfl (hd 24 _ rfl rfl rfl) hg50 rfl ?_
          exact awl_nil ⟨rfl, post_put⟩⟩⟩
        , ⟨_, rfl, fun sl hd hr ho => by
          refine g_skip rfl (hd 24 _ rfl rfl rfl) hg50 rfl ?_
          exact awl_nil ⟨rfl, post_put⟩⟩⟩
        , ⟨_, rfl, fun sl hd hr ho => by
          refine g_skip rfl (hd 24 _ rfl rfl rfl) hg50 rfl ?_
          exact awl_nil ⟨rfl, post_put⟩⟩⟩
        , ⟨_, rfl, fun sl hd hr ho => by
          refine g_skip rfl (hd 24 _ rfl rfl rfl) hg50 rfl ?_
          exact awl_nil ⟨rfl, post_put⟩⟩⟩
        , ⟨_, rfl, fun sl hd hr ho => by
          refine g_skip rfl (hd 24 _ rfl rfl rfl) hg50 rfl ?_
          exact awl_nil ⟨rfl, post_put⟩⟩⟩
        , ⟨_, rfl, fun sl hd hr ho => by
          refine g_skip rfl (hd 24 _ rfl rfl rfl) hg50 rfl ?_
          exact awl_nil ⟨rfl, post_put⟩⟩⟩
        , ⟨_, rfl, fun sl hd hr ho => by
          refine g_skip rfl (hd 24 _ rfl rfl rfl) hg50 rfl ?_
          exact awl_nil ⟨rfl, post_put⟩⟩⟩
        , ⟨_, rfl, fun sl hd hr ho => by
          refine g_skip rfl (hd 24 _ rfl rfl rfl) hg50 rfl ?_
          exact awl_nil ⟨rfl, post_put⟩⟩⟩
        (by rfl) ?_
       refine g_skip rfl rfl hg50 rfl ?_
       refine g_run rfl rfl hg40 ?_
       refine r_pickF rfl hg50 rfl rfl ?_
       refine g_run rfl rfl hg28 ?_
       refine r_pickF rfl hg40 rfl rfl ?_
       refine r_pickT rfl hg28 rfl rfl ?_
       refine awl_nil ?_
       refine x_then ?_
       refine awp_condF rfl ?_
       refine awp_skip ?_
       refine x_then ?_
       refine awp_seq ?_
       refine awp_region ?_
       first | (refine r_fieldb rfl TF.f70_1 TF.sz9 rfl ?_) | (refine r_fieldcp rfl TF.f70_1 TF.sz9 rfl ?_)
       first | (refine r_load1b 0 rfl rfl rfl TF.agg9 rfl ?_) | (refine r_load1 rfl TF.agg9 rfl ?_) | (refine r_load1b 1 rfl rfl rfl TF.agg9 rfl ?_)
       refine r_lit 65 (parts := [(0, .tmp 64)]) rfl TF.sl54 TF.sz9 TF.zraw9 rfl rfl rfl rfl rfl rfl rfl ?_
       refine r_assign rfl rfl ?_
       refine awl_nil ?_
       refine x_then ?_
       refine awp_seq ?_
       refine awp_seq ?_
       refine awp_region ?_
       first | (refine r_fieldb rfl TF.f70_0 TF.sz3 rfl ?_) | (refine r_fieldcp rfl TF.f70_0 TF.sz3 rfl ?_)
       first | (refine r_load1b 0 rfl rfl rfl TF.agg3 rfl ?_) | (refine r_load1 rfl TF.agg3 rfl ?_) | (refine r_load1b 1 rfl rfl rfl TF.agg3 rfl ?_)
       refine r_cmp rfl rfl rfl rfl ?_
       refine awl_nil ?_
       refine x_then ?_
       refine awp_cond rfl (fun hc3 => ?_) (fun hc3 => ?_)
       ·
        have hns : namesC x = [x.name, x.to] := by simp [namesC, (eq_of_beq hc3 : x.kind = 4)]
        have hnsl : (namesC x).length ≤ 2 := by rw [hns]; simp
        refine awp_region ?_
        refine r_move rfl rfl ?_
        first | (refine r_fieldb rfl TF.f70_2 TF.sz9 rfl ?_) | (refine r_fieldcp rfl TF.f70_2 TF.sz9 rfl ?_)
        first | (refine r_load1b 0 rfl rfl rfl TF.agg9 rfl ?_) | (refine r_load1 rfl TF.agg9 rfl ?_) | (refine r_load1b 1 rfl rfl rfl TF.agg9 rfl ?_)
        refine r_lit 72 (parts := [(0, .tmp 71)]) rfl TF.sl54 TF.sz9 TF.zraw9 rfl rfl rfl rfl rfl rfl rfl ?_
        refine r_append 65 rfl (by first | exact .own _ | exact .nil) rfl (by first | exact .sl _ | exact .own _ _ | exact .nil) TF.sl54 TF.sz9 (by decide) TF.by9 TF.zlen9 (by simp [chunks] <;> omega) (by simp [chunks] <;> omega) rfl ?_
        refine r_assign rfl rfl ?_
        refine awl_nil ?_
        refine x_then ?_
        refine awp_seq ?_
        refine awp_region ?_
        refine r_move rfl rfl ?_
        first | (refine r_lenS rfl rfl TF.sl54 rfl ?_) | (refine r_lenNil rfl TF.sl54 rfl ?_) | (refine r_lenV rfl TF.sl54 rfl ?_)
        refine r_move rfl rfl ?_
        refine awl_nil ?_
        refine x_then ?_
        refine awp_block ?_
        refine awp_loop (fun nn0 S => ∃ j : Nat, ∃ m2 : List (ByteArray × Bool), S = ⟨87, [(0, .a (fcsA d)), (3, .a (.v (.map (some b9)))), (10, .a (fcsA d)), (11, .a (.v (.int .i64 ((d.map FC.cs).length)))), (12, .a (.v (.int .i64 ((k : Int))))), (74, .a (strsA (namesC x))), (75, .a (.v (.int .i64 (((namesC x).map (fun s : ByteArray => [AV.v (.string s)])).length)))), (76, .a (.v (.int .i64 ((j : Int)))))], [⟨b9, true, .map (encM Value.string boolA m2)⟩]⟩ ∧ nn0 = (namesC x).length - j ∧ (j ≤ (namesC x).length) ∧ (((d.take k).flatMap namesC ++ (namesC x).take j).Nodup) ∧ (HasS m2 ((d.take k).flatMap namesC ++ (namesC x).take j))) ((namesC x).length - (0)) ⟨87, [(0, .a (fcsA d)), (3, .a (.v (.map (some b9)))), (10, .a (fcsA d)), (11, .a (.v (.int .i64 ((d.map FC.cs).length)))), (12, .a (.v (.int .i64 ((k : Int))))), (74, .a (strsA (namesC x))), (75, .a (.v (.int .i64 (((namesC x).map (fun s : ByteArray => [AV.v (.string s)])).length)))), (76, .a (.v (.int .i64 (((0) : Int)))))], [⟨b9, true, .map (encM Value.string boolA (m))⟩]⟩ ⟨rfl, (Slots.cons rfl (by first | exact .refl _ | exact .nilOwn _ _ | exact .nilSl _ | exact .ownSl _ _ _  | exact SV.le.ownEq (by first | rfl | (rw [hns]; rfl) | (rw [hns]; simp [chunks])) | exact SV.le.of_eq (by first | rfl | (rw [hns]; rfl) | (rw [hns]; simp [chunks]))) (Slots.cons rfl (by first | exact .refl _ | exact .nilOwn _ _ | exact .nilSl _ | exact .ownSl _ _ _  | exact SV.le.ownEq (by first | rfl | (rw [hns]; rfl) | (rw [hns]; simp [chunks])) | exact SV.le.of_eq (by first | rfl | (rw [hns]; rfl) | (rw [hns]; simp [chunks]))) (Slots.cons rfl (by first | exact .refl _ | exact .nilOwn _ _ | exact .nilSl _ | exact .ownSl _ _ _  | exact SV.le.ownEq (by first | rfl | (rw [hns]; rfl) | (rw [hns]; simp [chunks])) | exact SV.le.of_eq (by first | rfl | (rw [hns]; rfl) | (rw [hns]; simp [chunks]))) (Slots.cons rfl (by first | exact .refl _ | exact .nilOwn _ _ | exact .nilSl _ | exact .ownSl _ _ _  | exact SV.le.ownEq (by first | rfl | (rw [hns]; rfl) | (rw [hns]; simp [chunks])) | exact SV.le.of_eq (by first | rfl | (rw [hns]; rfl) | (rw [hns]; simp [chunks]))) (Slots.cons rfl (by first | exact .refl _ | exact .nilOwn _ _ | exact .nilSl _ | exact .ownSl _ _ _  | exact SV.le.ownEq (by first | rfl | (rw [hns]; rfl) | (rw [hns]; simp [chunks])) | exact SV.le.of_eq (by first | rfl | (rw [hns]; rfl) | (rw [hns]; simp [chunks]))) (Slots.cons rfl (by first | exact .refl _ | exact .nilOwn _ _ | exact .nilSl _ | exact .ownSl _ _ _  | exact SV.le.ownEq (by first | rfl | (rw [hns]; rfl) | (rw [hns]; simp [chunks])) | exact SV.le.of_eq (by first | rfl | (rw [hns]; rfl) | (rw [hns]; simp [chunks]))) (Slots.cons rfl (by first | exact .refl _ | exact .nilOwn _ _ | exact .nilSl _ | exact .ownSl _ _ _  | exact SV.le.ownEq (by first | rfl | (rw [hns]; rfl) | (rw [hns]; simp [chunks])) | exact SV.le.of_eq (by first | rfl | (rw [hns]; rfl) | (rw [hns]; simp [chunks]))) (Slots.cons rfl (by first | exact .refl _ | exact .nilOwn _ _ | exact .nilSl _ | exact .ownSl _ _ _  | exact SV.le.ownEq (by first | rfl | (rw [hns]; rfl) | (rw [hns]; simp [chunks])) | exact SV.le.of_eq (by first | rfl | (rw [hns]; rfl) | (rw [hns]; simp [chunks]))) Slots.nil)))))))), (by first | exact List.Sublist.refl _ | exact .cons_cons _ (.cons _ (.refl _)) | exact List.nil_sublist _ | exact .cons _ (.refl _) | exact .cons _ (.cons _ (.refl _)) | exact .cons _ (.cons _ (.cons _ (.refl _))) | exact .cons _ (.cons _ (.cons _ (.cons _ (.refl _)))) | exact .cons_cons _ (List.nil_sublist _))⟩ ⟨0, m, rfl, rfl, Nat.zero_le _, (by simpa using hnd), (by simpa using hm)⟩ ?_
        rintro nn0 _ ⟨j, m2, rfl, rfl, hj, hn2, hm2⟩
        refine awp_seq ?_
        refine awp_region ?_
        refine r_cmp rfl rfl rfl rfl ?_
        refine awl_nil ?_
        refine x_then ?_
        refine awp_seq ?_
        refine awp_cond rfl (fun hc4 => ?_) (fun hc4 => ?_)
        ·
         have hlts : j < (namesC x).length := by have := of_decide_eq_true hc4; rw [List.length_map] at this; omega
         obtain ⟨s, hs⟩ := get_lt hlts
         refine awp_skip ?_
         refine x_then ?_
         refine awp_seq ?_
         refine awp_block ?_
         refine awp_seq ?_
         refine awp_region ?_
         refine r_index rfl rfl rfl TF.sl54 TF.sz9 (by omega) (get_map hs) rfl ?_
         first | (refine r_load1b 0 rfl rfl rfl TF.agg9 rfl ?_) | (refine r_load1 rfl TF.agg9 rfl ?_)
         refine r_assign rfl rfl ?_
         refine awl_nil ?_
         refine x_then ?_
         refine awp_seq ?_
         refine awp_seq ?_
         refine awp_region ?_
         refine r_move rfl rfl ?_
         refine r_move rfl rfl ?_
         refine r_lookup 0 (keyEnc_string TF.un9) (ev := boolA) false rfl rfl rfl TF.map100 TF.zav4 rfl ?_
         refine awl_nil ?_
         refine x_then ?_
         refine awp_cond rfl (fun hc5 => ?_) (fun hc5 => ?_)
         ·
          refine awp_seq ?_
          refine awp_region ?_
          refine r_assign rfl rfl ?_
          refine awl_nil ?_
          refine x_then ?_
          refine awp_ret ?_
          refine x_thenR ?_
          refine x_blockR ?_
          refine x_thenR ?_
          refine x_thenR ?_
          refine x_blockR ?_
          refine x_blockR ?_
          refine x_thenR ?_
          refine x_thenR ?_
          refine x_blockR ?_
          refine x_thenR ?_
          exact ⟨(.inl rfl), _, [], (.one (by first | exact .mk rfl rfl | exact .nil rfl)), ⟨rfl, by first | (rw [right_bad hltx hbad]; rfl) | (rw [right_dup hx hs ((hm2 s).1 hc5)]; rfl) | (rw [right_good (fun i hi => hall i (by omega)) hnd]; rfl)⟩, (List.nil_sublist _), (by simp)⟩
         ·
          refine awp_skip ?_
          refine x_then ?_
          refine awp_region ?_
          refine r_move rfl rfl ?_
          refine r_move rfl rfl ?_
          refine r_mapUpdate 0 (keyEnc_string TF.un9) (ev := boolA) true rfl rfl rfl rfl rfl TF.map100 ?_
          refine awl_nil ?_
          refine x_block ?_
          refine x_then ?_
          refine awp_region ?_
          refine r_ari _ rfl rfl rfl (wrap_id (by first | omega | (simp; omega))) rfl ?_
          refine r_move rfl rfl ?_
          refine awl_nil ?_
          refine x_then ?_
          refine ⟨(namesC x).length - (j + 1), ⟨87, [(0, .a (fcsA d)), (3, .a (.v (.map (some b9)))), (10, .a (fcsA d)), (11, .a (.v (.int .i64 ((d.map FC.cs).length)))), (12, .a (.v (.int .i64 ((k : Int))))), (74, .a (strsA (namesC x))), (75, .a (.v (.int .i64 (((namesC x).map (fun s : ByteArray => [AV.v (.string s)])).length)))), (76, .a (.v (.int .i64 (((j + 1) : Int)))))], [⟨b9, true, .map (encM Value.string boolA ((mset m2 s true)))⟩]⟩, ⟨rfl, (Slots.cons rfl (by first | exact .refl _ | exact .nilOwn _ _ | exact .nilSl _ | exact .ownSl _ _ _  | exact SV.le.of_eq (by simp)) (Slots.cons rfl (by first | exact .refl _ | exact .nilOwn _ _ | exact .nilSl _ | exact .ownSl _ _ _  | exact SV.le.of_eq (by simp)) (Slots.cons rfl (by first | exact .refl _ | exact .nilOwn _ _ | exact .nilSl _ | exact .ownSl _ _ _  | exact SV.le.of_eq (by simp)) (Slots.cons rfl (by first | exact .refl _ | exact .nilOwn _ _ | exact .nilSl _ | exact .ownSl _ _ _  | exact SV.le.of_eq (by simp)) (Slots.cons rfl (by first | exact .refl _ | exact .nilOwn _ _ | exact .nilSl _ | exact .ownSl _ _ _  | exact SV.le.of_eq (by simp)) (Slots.cons rfl (by first | exact .refl _ | exact .nilOwn _ _ | exact .nilSl _ | exact .ownSl _ _ _  | exact SV.le.of_eq (by simp)) (Slots.cons rfl (by first | exact .refl _ | exact .nilOwn _ _ | exact .nilSl _ | exact .ownSl _ _ _  | exact SV.le.of_eq (by simp)) (Slots.cons rfl (by first | exact .refl _ | exact .nilOwn _ _ | exact .nilSl _ | exact .ownSl _ _ _  | exact SV.le.of_eq (by simp)) Slots.nil)))))))), (by first | exact List.Sublist.refl _ | exact .cons_cons _ (.cons _ (.refl _)) | exact List.nil_sublist _ | exact .cons _ (.refl _) | exact .cons _ (.cons _ (.refl _)) | exact .cons _ (.cons _ (.cons _ (.refl _))) | exact .cons _ (.cons _ (.cons _ (.cons _ (.refl _)))) | exact .cons_cons _ (List.nil_sublist _))⟩, (by omega), ⟨j + 1, (mset m2 s true), rfl, rfl, (by omega), (by rw [takeS hs, ← List.append_assoc]; exact nodup_snoc hn2 (fun h => by rw [(hm2 s).2 h] at hc5; cases hc5)), (by rw [takeS hs, ← List.append_assoc]; exact hasS_set hm2)⟩⟩
        ·
         have hge : (namesC x).length ≤ j := by have := of_decide_eq_false hc4; rw [List.length_map] at this; omega
         rw [List.take_of_length_le hge, ← names_take hx] at hn2 hm2
         refine awp_exit ?_
         refine x_thenE ?_
         refine x_thenE ?_
         refine x_blockE ?_
         refine x_block ?_
         refine x_then ?_
         refine awp_region ?_
         refine r_ari _ rfl rfl rfl (wrap_id (by first | omega | (simp; omega))) rfl ?_
         refine r_move rfl rfl ?_
         refine awl_nil ?_
         refine x_then ?_
         refine ⟨d.length - (k + 1), ⟨87, [(0, .a (fcsA d)), (3, .a (.v (.map (some b9)))), (10, .a (fcsA d)), (11, .a (.v (.int .i64 ((d.map FC.cs).length)))), (12, .a (.v (.int .i64 (((k + 1) : Int)))))], [⟨b9, true, .map (encM Value.string boolA (m2))⟩]⟩, ⟨rfl, (Slots.cons rfl (by first | exact .refl _ | exact .nilOwn _ _ | exact .nilSl _ | exact .ownSl _ _ _  | exact SV.le.of_eq (by simp)) (Slots.cons rfl (by first | exact .refl _ | exact .nilOwn _ _ | exact .nilSl _ | exact .ownSl _ _ _  | exact SV.le.of_eq (by simp)) (Slots.cons rfl (by first | exact .refl _ | exact .nilOwn _ _ | exact .nilSl _ | exact .ownSl _ _ _  | exact SV.le.of_eq (by simp)) (Slots.cons rfl (by first | exact .refl _ | exact .nilOwn _ _ | exact .nilSl _ | exact .ownSl _ _ _  | exact SV.le.of_eq (by simp)) (Slots.cons rfl (by first | exact .refl _ | exact .nilOwn _ _ | exact .nilSl _ | exact .ownSl _ _ _  | exact SV.le.of_eq (by simp)) Slots.nil))))), (by first | exact List.Sublist.refl _ | exact .cons_cons _ (.cons _ (.refl _)) | exact List.nil_sublist _ | exact .cons _ (.refl _) | exact .cons _ (.cons _ (.refl _)) | exact .cons _ (.cons _ (.cons _ (.refl _))) | exact .cons _ (.cons _ (.cons _ (.cons _ (.refl _)))) | exact .cons_cons _ (List.nil_sublist _))⟩, (by omega), ⟨k + 1, m2, rfl, rfl, (by omega), (fun i hi => by rcases Nat.lt_succ_iff_lt_or_eq.1 hi with h | rfl; exact hall i h; exact hgood), hn2, hm2⟩⟩
       ·
        have hns : namesC x = [x.name] := by simp [namesC, (by simpa using hc3 : ¬ x.kind = 4)]
        have hnsl : (namesC x).length ≤ 2 := by rw [hns]; simp
        refine awp_skip ?_
        refine x_then ?_
        refine awp_seq ?_
        refine awp_region ?_
        refine r_move rfl rfl ?_
        first | (refine r_lenS rfl rfl TF.sl54 rfl ?_) | (refine r_lenNil rfl TF.sl54 rfl ?_) | (refine r_lenV rfl TF.sl54 rfl ?_)
        refine r_move rfl rfl ?_
        refine awl_nil ?_
        refine x_then ?_
        refine awp_block ?_
        refine awp_loop (fun nn0 S => ∃ j : Nat, ∃ m2 : List (ByteArray × Bool), S = ⟨87, [(0, .a (fcsA d)), (3, .a (.v (.map (some b9)))), (10, .a (fcsA d)), (11, .a (.v (.int .i64 ((d.map FC.cs).length)))), (12, .a (.v (.int .i64 ((k : Int))))), (74, .a (strsA (namesC x))), (75, .a (.v (.int .i64 (((namesC x).map (fun s : ByteArray => [AV.v (.string s)])).length)))), (76, .a (.v (.int .i64 ((j : Int)))))], [⟨b9, true, .map (encM Value.string boolA m2)⟩]⟩ ∧ nn0 = (namesC x).length - j ∧ (j ≤ (namesC x).length) ∧ (((d.take k).flatMap namesC ++ (namesC x).take j).Nodup) ∧ (HasS m2 ((d.take k).flatMap namesC ++ (namesC x).take j))) ((namesC x).length - (0)) ⟨87, [(0, .a (fcsA d)), (3, .a (.v (.map (some b9)))), (10, .a (fcsA d)), (11, .a (.v (.int .i64 ((d.map FC.cs).length)))), (12, .a (.v (.int .i64 ((k : Int))))), (74, .a (strsA (namesC x))), (75, .a (.v (.int .i64 (((namesC x).map (fun s : ByteArray => [AV.v (.string s)])).length)))), (76, .a (.v (.int .i64 (((0) : Int)))))], [⟨b9, true, .map (encM Value.string boolA (m))⟩]⟩ ⟨rfl, (Slots.cons rfl (by first | exact .refl _ | exact .nilOwn _ _ | exact .nilSl _ | exact .ownSl _ _ _  | exact SV.le.ownEq (by first | rfl | (rw [hns]; rfl) | (rw [hns]; simp [chunks])) | exact SV.le.of_eq (by first | rfl | (rw [hns]; rfl) | (rw [hns]; simp [chunks]))) (Slots.cons rfl (by first | exact .refl _ | exact .nilOwn _ _ | exact .nilSl _ | exact .ownSl _ _ _  | exact SV.le.ownEq (by first | rfl | (rw [hns]; rfl) | (rw [hns]; simp [chunks])) | exact SV.le.of_eq (by first | rfl | (rw [hns]; rfl) | (rw [hns]; simp [chunks]))) (Slots.cons rfl (by first | exact .refl _ | exact .nilOwn _ _ | exact .nilSl _ | exact .ownSl _ _ _  | exact SV.le.ownEq (by first | rfl | (rw [hns]; rfl) | (rw [hns]; simp [chunks])) | exact SV.le.of_eq (by first | rfl | (rw [hns]; rfl) | (rw [hns]; simp [chunks]))) (Slots.cons rfl (by first | exact .refl _ | exact .nilOwn _ _ | exact .nilSl _ | exact .ownSl _ _ _  | exact SV.le.ownEq (by first | rfl | (rw [hns]; rfl) | (rw [hns]; simp [chunks])) | exact SV.le.of_eq (by first | rfl | (rw [hns]; rfl) | (rw [hns]; simp [chunks]))) (Slots.cons rfl (by first | exact .refl _ | exact .nilOwn _ _ | exact .nilSl _ | exact .ownSl _ _ _  | exact SV.le.ownEq (by first | rfl | (rw [hns]; rfl) | (rw [hns]; simp [chunks])) | exact SV.le.of_eq (by first | rfl | (rw [hns]; rfl) | (rw [hns]; simp [chunks]))) (Slots.cons rfl (by first | exact .refl _ | exact .nilOwn _ _ | exact .nilSl _ | exact .ownSl _ _ _  | exact SV.le.ownEq (by first | rfl | (rw [hns]; rfl) | (rw [hns]; simp [chunks])) | exact SV.le.of_eq (by first | rfl | (rw [hns]; rfl) | (rw [hns]; simp [chunks]))) (Slots.cons rfl (by first | exact .refl _ | exact .nilOwn _ _ | exact .nilSl _ | exact .ownSl _ _ _  | exact SV.le.ownEq (by first | rfl | (rw [hns]; rfl) | (rw [hns]; simp [chunks])) | exact SV.le.of_eq (by first | rfl | (rw [hns]; rfl) | (rw [hns]; simp [chunks]))) (Slots.cons rfl (by first | exact .refl _ | exact .nilOwn _ _ | exact .nilSl _ | exact .ownSl _ _ _  | exact SV.le.ownEq (by first | rfl | (rw [hns]; rfl) | (rw [hns]; simp [chunks])) | exact SV.le.of_eq (by first | rfl | (rw [hns]; rfl) | (rw [hns]; simp [chunks]))) Slots.nil)))))))), (by first | exact List.Sublist.refl _ | exact .cons_cons _ (.cons _ (.refl _)) | exact List.nil_sublist _ | exact .cons _ (.refl _) | exact .cons _ (.cons _ (.refl _)) | exact .cons _ (.cons _ (.cons _ (.refl _))) | exact .cons _ (.cons _ (.cons _ (.cons _ (.refl _)))) | exact .cons_cons _ (List.nil_sublist _))⟩ ⟨0, m, rfl, rfl, Nat.zero_le _, (by simpa using hnd), (by simpa using hm)⟩ ?_
        rintro nn0 _ ⟨j, m2, rfl, rfl, hj, hn2, hm2⟩
        refine awp_seq ?_
        refine awp_region ?_
        refine r_cmp rfl rfl rfl rfl ?_
        refine awl_nil ?_
        refine x_then ?_
        refine awp_seq ?_
        refine awp_cond rfl (fun hc4 => ?_) (fun hc4 => ?_)
        ·
         have hlts : j < (namesC x).length := by have := of_decide_eq_true hc4; rw [List.length_map] at this; omega
         obtain ⟨s, hs⟩ := get_lt hlts
         refine awp_skip ?_
         refine x_then ?_
         refine awp_seq ?_
         refine awp_block ?_
         refine awp_seq ?_
         refine awp_region ?_
         refine r_index rfl rfl rfl TF.sl54 TF.sz9 (by omega) (get_map hs) rfl ?_
         first | (refine r_load1b 0 rfl rfl rfl TF.agg9 rfl ?_) | (refine r_load1 rfl TF.agg9 rfl ?_)
         refine r_assign rfl rfl ?_
         refine awl_nil ?_
         refine x_then ?_
         refine awp_seq ?_
         refine awp_seq ?_
         refine awp_region ?_
         refine r_move rfl rfl ?_
         refine r_move rfl rfl ?_
         refine r_lookup 0 (keyEnc_string TF.un9) (ev := boolA) false rfl rfl rfl TF.map100 TF.zav4 rfl ?_
         refine awl_nil ?_
         refine x_then ?_
         refine awp_cond rfl (fun hc5 => ?_) (fun hc5 => ?_)
         ·
          refine awp_seq ?_
          refine awp_region ?_
          refine r_assign rfl rfl ?_
          refine awl_nil ?_
          refine x_then ?_
          refine awp_ret ?_
          refine x_thenR ?_
          refine x_blockR ?_
          refine x_thenR ?_
          refine x_thenR ?_
          refine x_blockR ?_
          refine x_blockR ?_
          refine x_thenR ?_
          refine x_thenR ?_
          refine x_blockR ?_
          refine x_thenR ?_
          exact ⟨(.inl rfl), _, [], (.one (by first | exact .mk rfl rfl | exact .nil rfl)), ⟨rfl, by first | (rw [right_bad hltx hbad]; rfl) | (rw [right_dup hx hs ((hm2 s).1 hc5)]; rfl) | (rw [right_good (fun i hi => hall i (by omega)) hnd]; rfl)⟩, (List.nil_sublist _), (by simp)⟩
         ·
          refine awp_skip ?_
          refine x_then ?_
          refine awp_region ?_
          refine r_move rfl rfl ?_
          refine r_move rfl rfl ?_
          refine r_mapUpdate 0 (keyEnc_string TF.un9) (ev := boolA) true rfl rfl rfl rfl rfl TF.map100 ?_
          refine awl_nil ?_
          refine x_block ?_
          refine x_then ?_
          refine awp_region ?_
          refine r_ari _ rfl rfl rfl (wrap_id (by first | omega | (simp; omega))) rfl ?_
          refine r_move rfl rfl ?_
          refine awl_nil ?_
          refine x_then ?_
          refine ⟨(namesC x).length - (j + 1), ⟨87, [(0, .a (fcsA d)), (3, .a (.v (.map (some b9)))), (10, .a (fcsA d)), (11, .a (.v (.int .i64 ((d.map FC.cs).length)))), (12, .a (.v (.int .i64 ((k : Int))))), (74, .a (strsA (namesC x))), (75, .a (.v (.int .i64 (((namesC x).map (fun s : ByteArray => [AV.v (.string s)])).length)))), (76, .a (.v (.int .i64 (((j + 1) : Int)))))], [⟨b9, true, .map (encM Value.string boolA ((mset m2 s true)))⟩]⟩, ⟨rfl, (Slots.cons rfl (by first | exact .refl _ | exact .nilOwn _ _ | exact .nilSl _ | exact .ownSl _ _ _  | exact SV.le.of_eq (by simp)) (Slots.cons rfl (by first | exact .refl _ | exact .nilOwn _ _ | exact .nilSl _ | exact .ownSl _ _ _  | exact SV.le.of_eq (by simp)) (Slots.cons rfl (by first | exact .refl _ | exact .nilOwn _ _ | exact .nilSl _ | exact .ownSl _ _ _  | exact SV.le.of_eq (by simp)) (Slots.cons rfl (by first | exact .refl _ | exact .nilOwn _ _ | exact .nilSl _ | exact .ownSl _ _ _  | exact SV.le.of_eq (by simp)) (Slots.cons rfl (by first | exact .refl _ | exact .nilOwn _ _ | exact .nilSl _ | exact .ownSl _ _ _  | exact SV.le.of_eq (by simp)) (Slots.cons rfl (by first | exact .refl _ | exact .nilOwn _ _ | exact .nilSl _ | exact .ownSl _ _ _  | exact SV.le.of_eq (by simp)) (Slots.cons rfl (by first | exact .refl _ | exact .nilOwn _ _ | exact .nilSl _ | exact .ownSl _ _ _  | exact SV.le.of_eq (by simp)) (Slots.cons rfl (by first | exact .refl _ | exact .nilOwn _ _ | exact .nilSl _ | exact .ownSl _ _ _  | exact SV.le.of_eq (by simp)) Slots.nil)))))))), (by first | exact List.Sublist.refl _ | exact .cons_cons _ (.cons _ (.refl _)) | exact List.nil_sublist _ | exact .cons _ (.refl _) | exact .cons _ (.cons _ (.refl _)) | exact .cons _ (.cons _ (.cons _ (.refl _))) | exact .cons _ (.cons _ (.cons _ (.cons _ (.refl _)))) | exact .cons_cons _ (List.nil_sublist _))⟩, (by omega), ⟨j + 1, (mset m2 s true), rfl, rfl, (by omega), (by rw [takeS hs, ← List.append_assoc]; exact nodup_snoc hn2 (fun h => by rw [(hm2 s).2 h] at hc5; cases hc5)), (by rw [takeS hs, ← List.append_assoc]; exact hasS_set hm2)⟩⟩
        ·
         have hge : (namesC x).length ≤ j := by have := of_decide_eq_false hc4; rw [List.length_map] at this; omega
         rw [List.take_of_length_le hge, ← names_take hx] at hn2 hm2
         refine awp_exit ?_
         refine x_thenE ?_
         refine x_thenE ?_
         refine x_blockE ?_
         refine x_block ?_
         refine x_then ?_
         refine awp_region ?_
         refine r_ari _ rfl rfl rfl (wrap_id (by first | omega | (simp; omega))) rfl ?_
         refine r_move rfl rfl ?_
         refine awl_nil ?_
         refine x_then ?_
         refine ⟨d.length - (k + 1), ⟨87, [(0, .a (fcsA d)), (3, .a (.v (.map (some b9)))), (10, .a (fcsA d)), (11, .a (.v (.int .i64 ((d.map FC.cs).length)))), (12, .a (.v (.int .i64 (((k + 1) : Int)))))], [⟨b9, true, .map (encM Value.string boolA (m2))⟩]⟩, ⟨rfl, (Slots.cons rfl (by first | exact .refl _ | exact .nilOwn _ _ | exact .nilSl _ | exact .ownSl _ _ _  | exact SV.le.of_eq (by simp)) (Slots.cons rfl (by first | exact .refl _ | exact .nilOwn _ _ | exact .nilSl _ | exact .ownSl _ _ _  | exact SV.le.of_eq (by simp)) (Slots.cons rfl (by first | exact .refl _ | exact .nilOwn _ _ | exact .nilSl _ | exact .ownSl _ _ _  | exact SV.le.of_eq (by simp)) (Slots.cons rfl (by first | exact .refl _ | exact .nilOwn _ _ | exact .nilSl _ | exact .ownSl _ _ _  | exact SV.le.of_eq (by simp)) (Slots.cons rfl (by first | exact .refl _ | exact .nilOwn _ _ | exact .nilSl _ | exact .ownSl _ _ _  | exact SV.le.of_eq (by simp)) Slots.nil))))), (by first | exact List.Sublist.refl _ | exact .cons_cons _ (.cons _ (.refl _)) | exact List.nil_sublist _ | exact .cons _ (.refl _) | exact .cons _ (.cons _ (.refl _)) | exact .cons _ (.cons _ (.cons _ (.refl _))) | exact .cons _ (.cons _ (.cons _ (.cons _ (.refl _)))) | exact .cons_cons _ (List.nil_sublist _))⟩, (by omega), ⟨k + 1, m2, rfl, rfl, (by omega), (fun i hi => by rcases Nat.lt_succ_iff_lt_or_eq.1 hi with h | rfl; exact hall i h; exact hgood), hn2, hm2⟩⟩
    ·
     have hk0 : ¬ 0 < k := by have := of_decide_eq_false hg28; omega
     have hgood : okC d k = true := by simp only [okC, hx, hg21, hbr, decide_eq_false hk0]; rfl
     refine awp_drawS [26, 27, 28, 29, 30, 31, 32, 33, 34, 35, 36, 37, 38, 39, 40, 41, 42, 43, 44, 45, 46, 47, 48, 49, 50, 51, 52, 53, 54, 55, 56, 57, 58] [_, _, _, _, _, _, _, _, _, _, _, _, _, _, _, _, _, _, _, _, _, _, _, _, _, _, _, _, _, _, _, _, _] [] [] TF.mixed rfl rfl rfl ⟨⟨⟨⟨⟨⟨⟨⟨⟨⟨⟨⟨⟨⟨⟨⟨⟨⟨⟨⟨⟨⟨⟨⟨⟨⟨⟨⟨⟨⟨⟨⟨⟨trivial
      , ⟨_, rfl, fun sl hd hr ho => by
        refine r_move (hr 4 _ rfl rfl rfl) rfl ?_
        exact awl_nil ⟨rfl, post_put⟩⟩⟩
      , ⟨_, rfl, fun sl hd hr ho => by
        refine r_cmp (hd 0 _ rfl rfl rfl) rfl rfl rfl ?_
        exact awl_nil ⟨rfl, post_put⟩⟩⟩
      , ⟨_, rfl, fun sl hd hr ho => by
        refine r_move (hd 1 _ rfl rfl rfl) rfl ?_
        exact awl_nil ⟨rfl, post_put⟩⟩⟩
      , ⟨_, rfl, fun sl hd hr ho => by
        refine g_skip rfl (hd 2 _ rfl rfl rfl) hg28 rfl ?_
        exact awl_nil ⟨rfl, post_put⟩⟩⟩
      , ⟨_, rfl, fun sl hd hr ho => by
        refine g_skip rfl (hd 2 _ rfl rfl rfl) hg28 rfl ?_
        exact awl_nil ⟨rfl, post_put⟩⟩⟩
      , ⟨_, rfl, fun sl hd hr ho => by
        refine g_skip rfl (hd 2 _ rfl rfl rfl) hg28 rfl ?_
        exact awl_nil ⟨rfl, post_put⟩⟩⟩
      , ⟨_, rfl, fun sl hd hr ho => by
        refine g_skip rfl (hd 2 _ rfl rfl rfl) hg28 rfl ?_
        exact awl_nil ⟨rfl, post_put⟩⟩⟩
      , ⟨_, rfl, fun sl hd hr ho => by
        refine g_skip rfl (hd 2 _ rfl rfl rfl) hg28 rfl ?_
        exact awl_nil ⟨rfl, post_put⟩⟩⟩
      , ⟨_, rfl, fun sl hd hr ho => by
        refine g_skip rfl (hd 2 _ rfl rfl rfl) hg28 rfl ?_
        exact awl_nil ⟨rfl, post_put⟩⟩⟩
      , ⟨_, rfl, fun sl hd hr ho => by
        refine g_skip rfl (hd 2 _ rfl rfl rfl) hg28 rfl ?_
        exact awl_nil ⟨rfl, post_put⟩⟩⟩
      , ⟨_, rfl, fun sl hd hr ho => by
        refine g_skip rfl (hd 2 _ rfl rfl rfl) hg28 rfl ?_
        exact awl_nil ⟨rfl, post_put⟩⟩⟩
      , ⟨_, rfl, fun sl hd hr ho => by
        refine g_skip rfl (hd 2 _ rfl rfl rfl) hg28 rfl ?_
        exact awl_nil ⟨rfl, post_put⟩⟩⟩
      , ⟨_, rfl, fun sl hd hr ho => by
        refine g_skip rfl (hd 2 _ rfl rfl rfl) hg28 rfl ?_
        exact awl_nil ⟨rfl, post_put⟩⟩⟩
      , ⟨_, rfl, fun sl hd hr ho => by
        refine g_skip rfl (hd 2 _ rfl rfl rfl) hg28 rfl ?_
        exact awl_nil ⟨rfl, post_put⟩⟩⟩
      , ⟨_, rfl, fun sl hd hr ho => by
        refine g_skip rfl (hd 2 _ rfl rfl rfl) hg28 rfl ?_
        exact awl_nil ⟨rfl, post_put⟩⟩⟩
      , ⟨_, rfl, fun sl hd hr ho => by
        refine g_skipU rfl (hd 14 _ rfl rfl rfl) rfl ?_
        exact awl_nil ⟨rfl, post_put⟩⟩⟩
      , ⟨_, rfl, fun sl hd hr ho => by
        refine g_skipU rfl (hd 14 _ rfl rfl rfl) rfl ?_
        exact awl_nil ⟨rfl, post_put⟩⟩⟩
      , ⟨_, rfl, fun sl hd hr ho => by
        refine g_skipU rfl (hd 14 _ rfl rfl rfl) rfl ?_
        exact awl_nil ⟨rfl, post_put⟩⟩⟩
      , ⟨_, rfl, fun sl hd hr ho => by
        refine g_skipU rfl (hd 14 _ rfl rfl rfl) rfl ?_
        exact awl_nil ⟨rfl, post_put⟩⟩⟩
      , ⟨_, rfl, fun sl hd hr ho => by
        refine g_skipU rfl (hd 14 _ rfl rfl rfl) rfl ?_
        exact awl_nil ⟨rfl, post_put⟩⟩⟩
      , ⟨_, rfl, fun sl hd hr ho => by
        refine g_skipU rfl (hd 14 _ rfl rfl rfl) rfl ?_
        exact awl_nil ⟨rfl, post_put⟩⟩⟩
      , ⟨_, rfl, fun sl hd hr ho => by
        refine g_skipU rfl (hd 14 _ rfl rfl rfl) rfl ?_
        exact awl_nil ⟨rfl, post_put⟩⟩⟩
      , ⟨_, rfl, fun sl hd hr ho => by
        refine g_skipU rfl (hd 14 _ rfl rfl rfl) rfl ?_
        exact awl_nil ⟨rfl, post_put⟩⟩⟩
      , ⟨_, rfl, fun sl hd hr ho => by
        refine g_skipU rfl (hd 14 _ rfl rfl rfl) rfl ?_
        exact awl_nil ⟨rfl, post_put⟩⟩⟩
      , ⟨_, rfl, fun sl hd hr ho => by
        refine g_skipU rfl (hd 14 _ rfl rfl rfl) rfl ?_
        exact awl_nil ⟨rfl, post_put⟩⟩⟩
      , ⟨_, rfl, fun sl hd hr ho => by
        refine g_skipU rfl (hd 24 _ rfl rfl rfl) rfl ?_
        exact awl_nil ⟨rfl, post_put⟩⟩⟩
      , ⟨_, rfl, fun sl hd hr ho => by
        refine g_skipU rfl (hd 24 _ rfl rfl rfl) rfl ?_
        exact awl_nil ⟨rfl, post_put⟩⟩⟩
      , ⟨_, rfl, fun sl hd hr ho => by
        refine g_skipU rfl (hd 24 _ rfl rfl rfl) rfl ?_
        exact awl_nil ⟨rfl, post_put⟩⟩⟩
      , ⟨_, rfl, fun sl hd hr ho => by
        refine g_skipU rfl (hd 24 _ rfl rfl rfl) rfl ?_
        exact awl_nil ⟨rfl, post_put⟩⟩⟩
      , ⟨_, rfl, fun sl hd hr ho => by
        refine g_skipU rfl (hd 24 _ rfl rfl rfl) rfl ?_
        exact awl_nil ⟨rfl, post_put⟩⟩⟩
      , ⟨_, rfl, fun sl hd hr ho => by
        refine g_skipU rfl (hd 24 _ rfl rfl rfl) rfl ?_
        exact awl_nil ⟨rfl, post_put⟩⟩⟩
      , ⟨_, rfl, fun sl hd hr ho => by
        refine g_skipU rfl (hd 24 _ rfl rfl rfl) rfl ?_
        exact awl_nil ⟨rfl, post_put⟩⟩⟩
      , ⟨_, rfl, fun sl hd hr ho => by
        refine g_skipU rfl (hd 24 _ rfl rfl rfl) rfl ?_
        exact awl_nil ⟨rfl, post_put⟩⟩⟩
      (by rfl) ?_
     refine g_skipU rfl rfl rfl ?_
     refine g_skipU rfl rfl rfl ?_
     refine g_skip rfl rfl hg28 rfl ?_
     refine r_pickF rfl hg28 rfl rfl ?_
     refine awl_nil ?_
     refine x_then ?_
     refine awp_condF rfl ?_
     refine awp_skip ?_
     refine x_then ?_
     refine awp_seq ?_
     refine awp_region ?_
     first | (refine r_fieldb rfl TF.f70_1 TF.sz9 rfl ?_) | (refine r_fieldcp rfl TF.f70_1 TF.sz9 rfl ?_)
     first | (refine r_load1b 0 rfl rfl rfl TF.agg9 rfl ?_) | (refine r_load1 rfl TF.agg9 rfl ?_) | (refine r_load1b 1 rfl rfl rfl TF.agg9 rfl ?_)
     refine r_lit 65 (parts := [(0, .tmp 64)]) rfl TF.sl54 TF.sz9 TF.zraw9 rfl rfl rfl rfl rfl rfl rfl ?_
     refine r_assign rfl rfl ?_
     refine awl_nil ?_
     refine x_then ?_
     refine awp_seq ?_
     refine awp_seq ?_
     refine awp_region ?_
     first | (refine r_fieldb rfl TF.f70_0 TF.sz3 rfl ?_) | (refine r_fieldcp rfl TF.f70_0 TF.sz3 rfl ?_)
     first | (refine r_load1b 0 rfl rfl rfl TF.agg3 rfl ?_) | (refine r_load1 rfl TF.agg3 rfl ?_) | (refine r_load1b 1 rfl rfl rfl TF.agg3 rfl ?_)
     refine r_cmp rfl rfl rfl rfl ?_
     refine awl_nil ?_
     refine x_then ?_
     refine awp_cond rfl (fun hc3 => ?_) (fun hc3 => ?_)
     ·
      have hns : namesC x = [x.name, x.to] := by simp [namesC, (eq_of_beq hc3 : x.kind = 4)]
      have hnsl : (namesC x).length ≤ 2 := by rw [hns]; simp
      refine awp_region ?_
      refine r_move rfl rfl ?_
      first | (refine r_fieldb rfl TF.f70_2 TF.sz9 rfl ?_) | (refine r_fieldcp rfl TF.f70_2 TF.sz9 rfl ?_)
      first | (refine r_load1b 0 rfl rfl rfl TF.agg9 rfl ?_) | (refine r_load1 rfl TF.agg9 rfl ?_) | (refine r_load1b 1 rfl rfl rfl TF.agg9 rfl ?_)
      refine r_lit 72 (parts := [(0, .tmp 71)]) rfl TF.sl54 TF.sz9 TF.zraw9 rfl rfl rfl rfl rfl rfl rfl ?_
      refine r_append 65 rfl (by first | exact .own _ | exact .nil) rfl (by first | exact .sl _ | exact .own _ _ | exact .nil) TF.sl54 TF.sz9 (by decide) TF.by9 TF.zlen9 (by simp [chunks] <;> omega) (by simp [chunks] <;> omega) rfl ?_
      refine r_assign rfl rfl ?_
      refine awl_nil ?_
      refine x_then ?_
      refine awp_seq ?_
      refine awp_region ?_
      refine r_move rfl rfl ?_
      first | (refine r_lenS rfl rfl TF.sl54 rfl ?_) | (refine r_lenNil rfl TF.sl54 rfl ?_) | (refine r_lenV rfl TF.sl54 rfl ?_)
      refine r_move rfl rfl ?_
      refine awl_nil ?_
      refine x_then ?_
      refine awp_block ?_
      refine awp_loop (fun nn0 S => ∃ j : Nat, ∃ m2 : List (ByteArray × Bool), S = ⟨87, [(0, .a (fcsA d)), (3, .a (.v (.map (some b9)))), (10, .a (fcsA d)), (11, .a (.v (.int .i64 ((d.map FC.cs).length)))), (12, .a (.v (.int .i64 ((k : Int))))), (74, .a (strsA (namesC x))), (75, .a (.v (.int .i64 (((namesC x).map (fun s : ByteArray => [AV.v (.string s)])).length)))), (76, .a (.v (.int .i64 ((j : Int)))))], [⟨b9, true, .map (encM Value.string boolA m2)⟩]⟩ ∧ nn0 = (namesC x).length - j ∧ (j ≤ (namesC x).length) ∧ (((d.take k).flatMap namesC ++ (namesC x).take j).Nodup) ∧ (HasS m2 ((d.take k).flatMap namesC ++ (namesC x).take j))) ((namesC x).length - (0)) ⟨87, [(0, .a (fcsA d)), (3, .a (.v (.map (some b9)))), (10, .a (fcsA d)), (11, .a (.v (.int .i64 ((d.map FC.cs).length)))), (12, .a (.v (.int .i64 ((k : Int))))), (74, .a (strsA (namesC x))), (75, .a (.v (.int .i64 (((namesC x).map (fun s : ByteArray => [AV.v (.string s)])).length)))), (76, .a (.v (.int .i64 (((0) : Int)))))], [⟨b9, true, .map (encM Value.string boolA (m))⟩]⟩ ⟨rfl, (Slots.cons rfl (by first | exact .refl _ | exact .nilOwn _ _ | exact .nilSl _ | exact .ownSl _ _ _  | exact SV.le.ownEq (by first | rfl | (rw [hns]; rfl) | (rw [hns]; simp [chunks])) | exact SV.le.of_eq (by first | rfl | (rw [hns]; rfl) | (rw [hns]; simp [chunks]))) (Slots.cons rfl (by first | exact .refl _ | exact .nilOwn _ _ | exact .nilSl _ | exact .ownSl _ _ _  | exact SV.le.ownEq (by first | rfl | (rw [hns]; rfl) | (rw [hns]; simp [chunks])) | exact SV.le.of_eq (by first | rfl | (rw [hns]; rfl) | (rw [hns]; simp [chunks]))) (Slots.cons rfl (by first | exact .refl _ | exact .nilOwn _ _ | exact .nilSl _ | exact .ownSl _ _ _  | exact SV.le.ownEq (by first | rfl | (rw [hns]; rfl) | (rw [hns]; simp [chunks])) | exact SV.le.of_eq (by first | rfl | (rw [hns]; rfl) | (rw [hns]; simp [chunks]))) (Slots.cons rfl (by first | exact .refl _ | exact .nilOwn _ _ | exact .nilSl _ | exact .ownSl _ _ _  | exact SV.le.ownEq (by first | rfl | (rw [hns]; rfl) | (rw [hns]; simp [chunks])) | exact SV.le.of_eq (by first | rfl | (rw [hns]; rfl) | (rw [hns]; simp [chunks]))) (Slots.cons rfl (by first | exact .refl _ | exact .nilOwn _ _ | exact .nilSl _ | exact .ownSl _ _ _  | exact SV.le.ownEq (by first | rfl | (rw [hns]; rfl) | (rw [hns]; simp [chunks])) | exact SV.le.of_eq (by first | rfl | (rw [hns]; rfl) | (rw [hns]; simp [chunks]))) (Slots.cons rfl (by first | exact .refl _ | exact .nilOwn _ _ | exact .nilSl _ | exact .ownSl _ _ _  | exact SV.le.ownEq (by first | rfl | (rw [hns]; rfl) | (rw [hns]; simp [chunks])) | exact SV.le.of_eq (by first | rfl | (rw [hns]; rfl) | (rw [hns]; simp [chunks]))) (Slots.cons rfl (by first | exact .refl _ | exact .nilOwn _ _ | exact .nilSl _ | exact .ownSl _ _ _  | exact SV.le.ownEq (by first | rfl | (rw [hns]; rfl) | (rw [hns]; simp [chunks])) | exact SV.le.of_eq (by first | rfl | (rw [hns]; rfl) | (rw [hns]; simp [chunks]))) (Slots.cons rfl (by first | exact .refl _ | exact .nilOwn _ _ | exact .nilSl _ | exact .ownSl _ _ _  | exact SV.le.ownEq (by first | rfl | (rw [hns]; rfl) | (rw [hns]; simp [chunks])) | exact SV.le.of_eq (by first | rfl | (rw [hns]; rfl) | (rw [hns]; simp [chunks]))) Slots.nil)))))))), (by first | exact List.Sublist.refl _ | exact .cons_cons _ (.cons _ (.refl _)) | exact List.nil_sublist _ | exact .cons _ (.refl _) | exact .cons _ (.cons _ (.refl _)) | exact .cons _ (.cons _ (.cons _ (.refl _))) | exact .cons _ (.cons _ (.cons _ (.cons _ (.refl _)))) | exact .cons_cons _ (List.nil_sublist _))⟩ ⟨0, m, rfl, rfl, Nat.zero_le _, (by simpa using hnd), (by simpa using hm)⟩ ?_
      rintro nn0 _ ⟨j, m2, rfl, rfl, hj, hn2, hm2⟩
      refine awp_seq ?_
      refine awp_region ?_
      refine r_cmp rfl rfl rfl rfl ?_
      refine awl_nil ?_
      refine x_then ?_
      refine awp_seq ?_
      refine awp_cond rfl (fun hc4 => ?_) (fun hc4 => ?_)
      ·
       have hlts : j < (namesC x).length := by have := of_decide_eq_true hc4; rw [List.length_map] at this; omega
       obtain ⟨s, hs⟩ := get_lt hlts
       refine awp_skip ?_
       refine x_then ?_
       refine awp_seq ?_
       refine awp_block ?_
       refine awp_seq ?_
       refine awp_region ?_
       refine r_index rfl rfl rfl TF.sl54 TF.sz9 (by omega) (get_map hs) rfl ?_
       first | (refine r_load1b 0 rfl rfl rfl TF.agg9 rfl ?_) | (refine r_load1 rfl TF.agg9 rfl ?_)
       refine r_assign rfl rfl ?_
       refine awl_nil ?_
       refine x_then ?_
       refine awp_seq ?_
       refine awp_seq ?_
       refine awp_region ?_
       refine r_move rfl rfl ?_
       refine r_move rfl rfl ?_
       refine r_lookup 0 (keyEnc_string TF.un9) (ev := boolA) false rfl rfl rfl TF.map100 TF.zav4 rfl ?_
       refine awl_nil ?_
       refine x_then ?_
       refine awp_cond rfl (fun hc5 => ?_) (fun hc5 => ?_)
       ·
        refine awp_seq ?_
        refine awp_region ?_
        refine r_assign rfl rfl ?_
        refine awl_nil ?_
        refine x_then ?_
        refine awp_ret ?_
        refine x_thenR ?_
        refine x_blockR ?_
        refine x_thenR ?_
        refine x_thenR ?_
        refine x_blockR ?_
        refine x_blockR ?_
        refine x_thenR ?_
        refine x_thenR ?_
        refine x_blockR ?_
        refine x_thenR ?_
        exact ⟨(.inl rfl), _, [], (.one (by first | exact .mk rfl rfl | exact .nil rfl)), ⟨rfl, by first | (rw [right_bad hltx hbad]; rfl) | (rw [right_dup hx hs ((hm2 s).1 hc5)]; rfl) | (rw [right_good (fun i hi => hall i (by omega)) hnd]; rfl)⟩, (List.nil_sublist _), (by simp)⟩
       ·
        refine awp_skip ?_
        refine x_then ?_
        refine awp_region ?_
        refine r_move rfl rfl ?_
        refine r_move rfl rfl ?_
        refine r_mapUpdate 0 (keyEnc_string TF.un9) (ev := boolA) true rfl rfl rfl rfl rfl TF.map100 ?_
        refine awl_nil ?_
        refine x_block ?_
        refine x_then ?_
        refine awp_region ?_
        refine r_ari _ rfl rfl rfl (wrap_id (by first | omega | (simp; omega))) rfl ?_
        refine r_move rfl rfl ?_
        refine awl_nil ?_
        refine x_then ?_
        refine ⟨(namesC x).length - (j + 1), ⟨87, [(0, .a (fcsA d)), (3, .a (.v (.map (some b9)))), (10, .a (fcsA d)), (11, .a (.v (.int .i64 ((d.map FC.cs).length)))), (12, .a (.v (.int .i64 ((k : Int))))), (74, .a (strsA (namesC x))), (75, .a (.v (.int .i64 (((namesC x).map (fun s : ByteArray => [AV.v (.string s)])).length)))), (76, .a (.v (.int .i64 (((j + 1) : Int)))))], [⟨b9, true, .map (encM Value.string boolA ((mset m2 s true)))⟩]⟩, ⟨rfl, (Slots.cons rfl (by first | exact .refl _ | exact .nilOwn _ _ | exact .nilSl _ | exact .ownSl _ _ _  | exact SV.le.of_eq (by simp)) (Slots.cons rfl (by first | exact .refl _ | exact .nilOwn _ _ | exact .nilSl _ | exact .ownSl _ _ _  | exact SV.le.of_eq (by simp)) (Slots.cons rfl (by first | exact .refl _ | exact .nilOwn _ _ | exact .nilSl _ | exact .ownSl _ _ _  | exact SV.le.of_eq (by simp)) (Slots.cons rfl (by first | exact .refl _ | exact .nilOwn _ _ | exact .nilSl _ | exact .ownSl _ _ _  | exact SV.le.of_eq (by simp)) (Slots.cons rfl (by first | exact .refl _ | exact .nilOwn _ _ | exact .nilSl _ | exact .ownSl _ _ _  | exact SV.le.of_eq (by simp)) (Slots.cons rfl (by first | exact .refl _ | exact .nilOwn _ _ | exact .nilSl _ | exact .ownSl _ _ _  | exact SV.le.of_eq (by simp)) (Slots.cons rfl (by first | exact .refl _ | exact .nilOwn _ _ | exact .nilSl _ | exact .ownSl _ _ _  | exact SV.le.of_eq (by simp)) (Slots.cons rfl (by first | exact .refl _ | exact .nilOwn _ _ | exact .nilSl _ | exact .ownSl _ _ _  | exact SV.le.of_eq (by simp)) Slots.nil)))))))), (by first | exact List.Sublist.refl _ | exact .cons_cons _ (.cons _ (.refl _)) | exact List.nil_sublist _ | exact .cons _ (.refl _) | exact .cons _ (.cons _ (.refl _)) | exact .cons _ (.cons _ (.cons _ (.refl _))) | exact .cons _ (.cons _ (.cons _ (.cons _ (.refl _)))) | exact .cons_cons _ (List.nil_sublist _))⟩, (by omega), ⟨j + 1, (mset m2 s true), rfl, rfl, (by omega), (by rw [takeS hs, ← List.append_assoc]; exact nodup_snoc hn2 (fun h => by rw [(hm2 s).2 h] at hc5; cases hc5)), (by rw [takeS hs, ← List.append_assoc]; exact hasS_set hm2)⟩⟩
      ·
       have hge : (namesC x).length ≤ j := by have := of_decide_eq_false hc4; rw [List.length_map] at this; omega
       rw [List.take_of_length_le hge, ← names_take hx] at hn2 hm2
       refine awp_exit ?_
       refine x_thenE ?_
       refine x_thenE ?_
       refine x_blockE ?_
       refine x_block ?_
       refine x_then ?_
       refine awp_region ?_
       refine r_ari _ rfl rfl rfl (wrap_id (by first | omega | (simp; omega))) rfl ?_
       refine r_move rfl rfl ?_
       refine awl_nil ?_
       refine x_then ?_
       refine ⟨d.length - (k + 1), ⟨87, [(0, .a (fcsA d)), (3, .a (.v (.map (some b9)))), (10, .a (fcsA d)), (11, .a (.v (.int .i64 ((d.map FC.cs).length)))), (12, .a (.v (.int .i64 (((k + 1) : Int)))))], [⟨b9, true, .map (encM Value.string boolA (m2))⟩]⟩, ⟨rfl, (Slots.cons rfl (by first | exact .refl _ | exact .nilOwn _ _ | exact .nilSl _ | exact .ownSl _ _ _  | exact SV.le.of_eq (by simp)) (Slots.cons rfl (by first | exact .refl _ | exact .nilOwn _ _ | exact .nilSl _ | exact .ownSl _ _ _  | exact SV.le.of_eq (by simp)) (Slots.cons rfl (by first | exact .refl _ | exact .nilOwn _ _ | exact .nilSl _ | exact .ownSl _ _ _  | exact SV.le.of_eq (by simp)) (Slots.cons rfl (by first | exact .refl _ | exact .nilOwn _ _ | exact .nilSl _ | exact .ownSl _ _ _  | exact SV.le.of_eq (by simp)) (Slots.cons rfl (by first | exact .refl _ | exact .nilOwn _ _ | exact .nilSl _ | exact .ownSl _ _ _  | exact SV.le.of_eq (by simp)) Slots.nil))))), (by first | exact List.Sublist.refl _ | exact .cons_cons _ (.cons _ (.refl _)) | exact List.nil_sublist _ | exact .cons _ (.refl _) | exact .cons _ (.cons _ (.refl _)) | exact .cons _ (.cons _ (.cons _ (.refl _))) | exact .cons _ (.cons _ (.cons _ (.cons _ (.refl _)))) | exact .cons_cons _ (List.nil_sublist _))⟩, (by omega), ⟨k + 1, m2, rfl, rfl, (by omega), (fun i hi => by rcases Nat.lt_succ_iff_lt_or_eq.1 hi with h | rfl; exact hall i h; exact hgood), hn2, hm2⟩⟩
     ·
      have hns : namesC x = [x.name] := by simp [namesC, (by simpa using hc3 : ¬ x.kind = 4)]
      have hnsl : (namesC x).length ≤ 2 := by rw [hns]; simp
      refine awp_skip ?_
      refine x_then ?_
      refine awp_seq ?_
      refine awp_region ?_
      refine r_move rfl rfl ?_
      first | (refine r_lenS rfl rfl TF.sl54 rfl ?_) | (refine r_lenNil rfl TF.sl54 rfl ?_) | (refine r_lenV rfl TF.sl54 rfl ?_)
      refine r_move rfl rfl ?_
      refine awl_nil ?_
      refine x_then ?_
      refine awp_block ?_
      refine awp_loop (fun nn0 S => ∃ j : Nat, ∃ m2 : List (ByteArray × Bool), S = ⟨87, [(0, .a (fcsA d)), (3, .a (.v (.map (some b9)))), (10, .a (fcsA d)), (11, .a (.v (.int .i64 ((d.map FC.cs).length)))), (12, .a (.v (.int .i64 ((k : Int))))), (74, .a (strsA (namesC x))), (75, .a (.v (.int .i64 (((namesC x).map (fun s : ByteArray => [AV.v (.string s)])).length)))), (76, .a (.v (.int .i64 ((j : Int)))))], [⟨b9, true, .map (encM Value.string boolA m2)⟩]⟩ ∧ nn0 = (namesC x).length - j ∧ (j ≤ (namesC x).length) ∧ (((d.take k).flatMap namesC ++ (namesC x).take j).Nodup) ∧ (HasS m2 ((d.take k).flatMap namesC ++ (namesC x).take j))) ((namesC x).length - (0)) ⟨87, [(0, .a (fcsA d)), (3, .a (.v (.map (some b9)))), (10, .a (fcsA d)), (11, .a (.v (.int .i64 ((d.map FC.cs).length)))), (12, .a (.v (.int .i64 ((k : Int))))), (74, .a (strsA (namesC x))), (75, .a (.v (.int .i64 (((namesC x).map (fun s : ByteArray => [AV.v (.string s)])).length)))), (76, .a (.v (.int .i64 (((0) : Int)))))], [⟨b9, true, .map (encM Value.string boolA (m))⟩]⟩ ⟨rfl, (Slots.cons rfl (by first | exact .refl _ | exact .nilOwn _ _ | exact .nilSl _ | exact .ownSl _ _ _  | exact SV.le.ownEq (by first | rfl | (rw [hns]; rfl) | (rw [hns]; simp [chunks])) | exact SV.le.of_eq (by first | rfl | (rw [hns]; rfl) | (rw [hns]; simp [chunks]))) (Slots.cons rfl (by first | exact .refl _ | exact .nilOwn _ _ | exact .nilSl _ | exact .ownSl _ _ _  | exact SV.le.ownEq (by first | rfl | (rw [hns]; rfl) | (rw [hns]; simp [chunks])) | exact SV.le.of_eq (by first | rfl | (rw [hns]; rfl) | (rw [hns]; simp [chunks]))) (Slots.cons rfl (by first | exact .refl _ | exact .nilOwn _ _ | exact .nilSl _ | exact .ownSl _ _ _  | exact SV.le.ownEq (by first | rfl | (rw [hns]; rfl) | (rw [hns]; simp [chunks])) | exact SV.le.of_eq (by first | rfl | (rw [hns]; rfl) | (rw [hns]; simp [chunks]))) (Slots.cons rfl (by first | exact .refl _ | exact .nilOwn _ _ | exact .nilSl _ | exact .ownSl _ _ _  | exact SV.le.ownEq (by first | rfl | (rw [hns]; rfl) | (rw [hns]; simp [chunks])) | exact SV.le.of_eq (by first | rfl | (rw [hns]; rfl) | (rw [hns]; simp [chunks]))) (Slots.cons rfl (by first | exact .refl _ | exact .nilOwn _ _ | exact .nilSl _ | exact .ownSl _ _ _  | exact SV.le.ownEq (by first | rfl | (rw [hns]; rfl) | (rw [hns]; simp [chunks])) | exact SV.le.of_eq (by first | rfl | (rw [hns]; rfl) | (rw [hns]; simp [chunks]))) (Slots.cons rfl (by first | exact .refl _ | exact .nilOwn _ _ | exact .nilSl _ | exact .ownSl _ _ _  | exact SV.le.ownEq (by first | rfl | (rw [hns]; rfl) | (rw [hns]; simp [chunks])) | exact SV.le.of_eq (by first | rfl | (rw [hns]; rfl) | (rw [hns]; simp [chunks]))) (Slots.cons rfl (by first | exact .refl _ | exact .nilOwn _ _ | exact .nilSl _ | exact .ownSl _ _ _  | exact SV.le.ownEq (by first | rfl | (rw [hns]; rfl) | (rw [hns]; simp [chunks])) | exact SV.le.of_eq (by first | rfl | (rw [hns]; rfl) | (rw [hns]; simp [chunks]))) (Slots.cons rfl (by first | exact .refl _ | exact .nilOwn _ _ | exact .nilSl _ | exact .ownSl _ _ _  | exact SV.le.ownEq (by first | rfl | (rw [hns]; rfl) | (rw [hns]; simp [chunks])) | exact SV.le.of_eq (by first | rfl | (rw [hns]; rfl) | (rw [hns]; simp [chunks]))) Slots.nil)))))))), (by first | exact List.Sublist.refl _ | exact .cons_cons _ (.cons _ (.refl _)) | exact List.nil_sublist _ | exact .cons _ (.refl _) | exact .cons _ (.cons _ (.refl _)) | exact .cons _ (.cons _ (.cons _ (.refl _))) | exact .cons _ (.cons _ (.cons _ (.cons _ (.refl _)))) | exact .cons_cons _ (List.nil_sublist _))⟩ ⟨0, m, rfl, rfl, Nat.zero_le _, (by simpa using hnd), (by simpa using hm)⟩ ?_
      rintro nn0 _ ⟨j, m2, rfl, rfl, hj, hn2, hm2⟩
      refine awp_seq ?_
      refine awp_region ?_
      refine r_cmp rfl rfl rfl rfl ?_
      refine awl_nil ?_
      refine x_then ?_
      refine awp_seq ?_
      refine awp_cond rfl (fun hc4 => ?_) (fun hc4 => ?_)
      ·
       have hlts : j < (namesC x).length := by have := of_decide_eq_true hc4; rw [List.length_map] at this; omega
       obtain ⟨s, hs⟩ := get_lt hlts
       refine awp_skip ?_
       refine x_then ?_
       refine awp_seq ?_
       refine awp_block ?_
       refine awp_seq ?_
       refine awp_region ?_
       refine r_index rfl rfl rfl TF.sl54 TF.sz9 (by omega) (get_map hs) rfl ?_
       first | (refine r_load1b 0 rfl rfl rfl TF.agg9 rfl ?_) | (refine r_load1 rfl TF.agg9 rfl ?_)
       refine r_assign rfl rfl ?_
       refine awl_nil ?_
       refine x_then ?_
       refine awp_seq ?_
       refine awp_seq ?_
       refine awp_region ?_
       refine r_move rfl rfl ?_
       refine r_move rfl rfl ?_
       refine r_lookup 0 (keyEnc_string TF.un9) (ev := boolA) false rfl rfl rfl TF.map100 TF.zav4 rfl ?_
       refine awl_nil ?_
       refine x_then ?_
       refine awp_cond rfl (fun hc5 => ?_) (fun hc5 => ?_)
       ·
        refine awp_seq ?_
        refine awp_region ?_
        refine r_assign rfl rfl ?_
        refine awl_nil ?_
        refine x_then ?_
        refine awp_ret ?_
        refine x_thenR ?_
        refine x_blockR ?_
        refine x_thenR ?_
        refine x_thenR ?_
        refine x_blockR ?_
        refine x_blockR ?_
        refine x_thenR ?_
        refine x_thenR ?_
        refine x_blockR ?_
        refine x_thenR ?_
        exact ⟨(.inl rfl), _, [], (.one (by first | exact .mk rfl rfl | exact .nil rfl)), ⟨rfl, by first | (rw [right_bad hltx hbad]; rfl) | (rw [right_dup hx hs ((hm2 s).1 hc5)]; rfl) | (rw [right_good (fun i hi => hall i (by omega)) hnd]; rfl)⟩, (List.nil_sublist _), (by simp)⟩
       ·
        refine awp_skip ?_
        refine x_then ?_
        refine awp_region ?_
        refine r_move rfl rfl ?_
        refine r_move rfl rfl ?_
        refine r_mapUpdate 0 (keyEnc_string TF.un9) (ev := boolA) true rfl rfl rfl rfl rfl TF.map100 ?_
        refine awl_nil ?_
        refine x_block ?_
        refine x_then ?_
        refine awp_region ?_
        refine r_ari _ rfl rfl rfl (wrap_id (by first | omega | (simp; omega))) rfl ?_
        refine r_move rfl rfl ?_
        refine awl_nil ?_
        refine x_then ?_
        refine ⟨(namesC x).length - (j + 1), ⟨87, [(0, .a (fcsA d)), (3, .a (.v (.map (some b9)))), (10, .a (fcsA d)), (11, .a (.v (.int .i64 ((d.map FC.cs).length)))), (12, .a (.v (.int .i64 ((k : Int))))), (74, .a (strsA (namesC x))), (75, .a (.v (.int .i64 (((namesC x).map (fun s : ByteArray => [AV.v (.string s)])).length)))), (76, .a (.v (.int .i64 (((j + 1) : Int)))))], [⟨b9, true, .map (encM Value.string boolA ((mset m2 s true)))⟩]⟩, ⟨rfl, (Slots.cons rfl (by first | exact .refl _ | exact .nilOwn _ _ | exact .nilSl _ | exact .ownSl _ _ _  | exact SV.le.of_eq (by simp)) (Slots.cons rfl (by first | exact .refl _ | exact .nilOwn _ _ | exact .nilSl _ | exact .ownSl _ _ _  | exact SV.le.of_eq (by simp)) (Slots.cons rfl (by first | exact .refl _ | exact .nilOwn _ _ | exact .nilSl _ | exact .ownSl _ _ _  | exact SV.le.of_eq (by simp)) (Slots.cons rfl (by first | exact .refl _ | exact .nilOwn _ _ | exact .nilSl _ | exact .ownSl _ _ _  | exact SV.le.of_eq (by simp)) (Slots.cons rfl (by first | exact .refl _ | exact .nilOwn _ _ | exact .nilSl _ | exact .ownSl _ _ _  | exact SV.le.of_eq (by simp)) (Slots.cons rfl (by first | exact .refl _ | exact .nilOwn _ _ | exact .nilSl _ | exact .ownSl _ _ _  | exact SV.le.of_eq (by simp)) (Slots.cons rfl (by first | exact .refl _ | exact .nilOwn _ _ | exact .nilSl _ | exact .ownSl _ _ _  | exact SV.le.of_eq (by simp)) (Slots.cons rfl (by first | exact .refl _ | exact .nilOwn _ _ | exact .nilSl _ | exact .ownSl _ _ _  | exact SV.le.of_eq (by simp)) Slots.nil)))))))), (by first | exact List.Sublist.refl _ | exact .cons_cons _ (.cons _ (.refl _)) | exact List.nil_sublist _ | exact .cons _ (.refl _) | exact .cons _ (.cons _ (.refl _)) | exact .cons _ (.cons _ (.cons _ (.refl _))) | exact .cons _ (.cons _ (.cons _ (.cons _ (.refl _)))) | exact .cons_cons _ (List.nil_sublist _))⟩, (by omega), ⟨j + 1, (mset m2 s true), rfl, rfl, (by omega), (by rw [takeS hs, ← List.append_assoc]; exact nodup_snoc hn2 (fun h => by rw [(hm2 s).2 h] at hc5; cases hc5)), (by rw [takeS hs, ← List.append_assoc]; exact hasS_set hm2)⟩⟩
      ·
       have hge : (namesC x).length ≤ j := by have := of_decide_eq_false hc4; rw [List.length_map] at this; omega
       rw [List.take_of_length_le hge, ← names_take hx] at hn2 hm2
       refine awp_exit ?_
       refine x_thenE ?_
       refine x_thenE ?_
       refine x_blockE ?_
       refine x_block ?_
       refine x_then ?_
       refine awp_region ?_
       refine r_ari _ rfl rfl rfl (wrap_id (by first | omega | (simp; omega))) rfl ?_
       refine r_move rfl rfl ?_
       refine awl_nil ?_
       refine x_then ?_
       refine ⟨d.length - (k + 1), ⟨87, [(0, .a (fcsA d)), (3, .a (.v (.map (some b9)))), (10, .a (fcsA d)), (11, .a (.v (.int .i64 ((d.map FC.cs).length)))), (12, .a (.v (.int .i64 (((k + 1) : Int)))))], [⟨b9, true, .map (encM Value.string boolA (m2))⟩]⟩, ⟨rfl, (Slots.cons rfl (by first | exact .refl _ | exact .nilOwn _ _ | exact .nilSl _ | exact .ownSl _ _ _  | exact SV.le.of_eq (by simp)) (Slots.cons rfl (by first | exact .refl _ | exact .nilOwn _ _ | exact .nilSl _ | exact .ownSl _ _ _  | exact SV.le.of_eq (by simp)) (Slots.cons rfl (by first | exact .refl _ | exact .nilOwn _ _ | exact .nilSl _ | exact .ownSl _ _ _  | exact SV.le.of_eq (by simp)) (Slots.cons rfl (by first | exact .refl _ | exact .nilOwn _ _ | exact .nilSl _ | exact .ownSl _ _ _  | exact SV.le.of_eq (by simp)) (Slots.cons rfl (by first | exact .refl _ | exact .nilOwn _ _ | exact .nilSl _ | exact .ownSl _ _ _  | exact SV.le.of_eq (by simp)) Slots.nil))))), (by first | exact List.Sublist.refl _ | exact .cons_cons _ (.cons _ (.refl _)) | exact List.nil_sublist _ | exact .cons _ (.refl _) | exact .cons _ (.cons _ (.refl _)) | exact .cons _ (.cons _ (.cons _ (.refl _))) | exact .cons _ (.cons _ (.cons _ (.cons _ (.refl _)))) | exact .cons_cons _ (List.nil_sublist _))⟩, (by omega), ⟨k + 1, m2, rfl, rfl, (by omega), (fun i hi => by rcases Nat.lt_succ_iff_lt_or_eq.1 hi with h | rfl; exact hall i h; exact hgood), hn2, hm2⟩⟩
 ·
  have hge : d.length ≤ k := by have := of_decide_eq_false hc0; simp at this; omega
  rw [List.take_of_length_le hge] at hnd
  refine awp_exit ?_
  refine x_thenE ?_
  refine x_thenE ?_
  refine x_blockE ?_
  refine x_then ?_
  refine awp_seq ?_
  refine awp_region ?_
  refine r_assign rfl rfl ?_
  refine awl_nil ?_
  refine x_then ?_
  refine awp_ret ?_
  exact ⟨(.inl rfl), _, [], (.one (by first | exact .mk rfl rfl | exact .nil rfl)), ⟨rfl, by first | (rw [right_bad hltx hbad]; rfl) | (rw [right_dup hx hs ((hm2 s).1 hc5)]; rfl) | (rw [right_good (fun i hi => hall i (by omega)) hnd]; rfl)⟩, (List.nil_sublist _), (by simp)⟩
end Go.Proofs.YtcbhhjahjnlfhaaDoor.A
namespace Go.Proofs.YtcbhhjahjnlfhaaDoor.A
open Go Go.RowKit
set_option linter.unusedVariables false
set_option linter.unusedSimpArgs false
set_option maxRecDepth 100000
theorem TF.sl65 : sliceT Tryd.prog 65 = some 71 := by kernel_rfl
theorem TF.sz71 : szT Tryd.prog 71 = some 2 := by kernel_rfl
theorem TF.agg71 : aggT Tryd.prog 71 = some true := by kernel_rfl
theorem TF.zero71 : ZeroT Tryd.prog 71 [.v (.string ⟨#[]⟩), .sl 1 []] := ⟨[(.string ⟨#[]⟩), (.slice none 0 0)], by kernel_rfl, (.cons (.refl _) (.cons (.nil 1) .nil))⟩
theorem TF.f71_0 : fieldT Tryd.prog 71 0 = some (0, 9) := by kernel_rfl
theorem TF.f71_1 : fieldT Tryd.prog 71 1 = some (1, 22) := by kernel_rfl
theorem TF.en53 : entersT Tryd.prog 53 := enters_of Tryd.func53 (by kernel_rfl) (by kernel_rfl)
theorem TF.en52 : entersT Tryd.prog 52 := enters_of Tryd.func52 (by kernel_rfl) (by kernel_rfl)
theorem TF.zraw71 : zeroT Tryd.prog 71 = some [(.string ⟨#[]⟩), (.slice none 0 0)] := by kernel_rfl
theorem TF.en73 : entersT Tryd.prog 73 := enters_of Tryd.func73 (by kernel_rfl) (by kernel_rfl)
theorem TF.en74 : entersT Tryd.prog 74 := enters_of Tryd.func74 (by kernel_rfl) (by kernel_rfl)
theorem TF.by71 : bytesT Tryd.prog 71 = some 40 := by kernel_rfl
theorem TF.zlen71 : (zeroT Tryd.prog 71).map (·.length) = some 2 := by kernel_rfl
theorem TF.en18 : entersT Tryd.prog 18 := enters_of Tryd.func18 (by kernel_rfl) (by kernel_rfl)
theorem TF.en28 : entersT Tryd.prog 28 := enters_of Tryd.func28 (by kernel_rfl) (by kernel_rfl)
theorem TF.en63 : entersT Tryd.prog 63 := enters_of Tryd.func63 (by kernel_rfl) (by kernel_rfl)
theorem files_ok (l : List File) (hl : l.length ≤ 1000000) (hda : ∀ f ∈ l, f.data.length ≤ 1000000) : AC Tryd.prog 23 [files l] [] (fun r n => n = [] ∧ r = files l) := by
 refine ac_of_awp (rs := [2]) (nt := 24) Tryd.func23 rfl rfl rfl rfl (fun w0 C0 hq => ?_)
 refine awp_seq ?_
 refine awp_region ?_
 refine r_assign rfl rfl ?_
 refine awl_nil ?_
 refine x_then ?_
 refine awp_seq ?_
 refine awp_region ?_
 refine r_assign rfl rfl ?_
 refine awl_nil ?_
 refine x_then ?_
 refine awp_seq ?_
 refine awp_seq ?_
 refine awp_region ?_
 refine r_move rfl rfl ?_
 first | (refine r_lenS rfl rfl TF.sl65 rfl ?_) | (refine r_lenNil rfl TF.sl65 rfl ?_) | (refine r_lenV rfl TF.sl65 rfl ?_)
 refine r_move rfl rfl ?_
 refine awl_nil ?_
 refine x_then ?_
 refine awp_block ?_
 refine awp_loop (fun nn0 S => ∃ k : Nat, S = ⟨24, [(3, .own 3 2 ((l.take k).map File.cs)), (6, .a (files l)), (7, .a (.v (.int .i64 ((l.map File.cs).length)))), (8, .a (.v (.int .i64 ((k : Int)))))], []⟩ ∧ nn0 = l.length - k ∧ (k ≤ l.length)) (l.length - (0)) ⟨24, [(3, .own 3 2 ((l.take (0)).map File.cs)), (6, .a (files l)), (7, .a (.v (.int .i64 ((l.map File.cs).length)))), (8, .a (.v (.int .i64 (((0) : Int)))))], []⟩ ⟨rfl, (Slots.cons rfl (by first | exact .refl _ | exact .nilOwn _ _ | exact .nilSl _ | exact .ownSl _ _ _  | exact SV.le.of_eq (by simp)) (Slots.cons rfl (by first | exact .refl _ | exact .nilOwn _ _ | exact .nilSl _ | exact .ownSl _ _ _  | exact SV.le.of_eq (by simp)) (Slots.cons rfl (by first | exact .refl _ | exact .nilOwn _ _ | exact .nilSl _ | exact .ownSl _ _ _  | exact SV.le.of_eq (by simp)) (Slots.cons rfl (by first | exact .refl _ | exact .nilOwn _ _ | exact .nilSl _ | exact .ownSl _ _ _  | exact SV.le.of_eq (by simp)) Slots.nil)))), (by first | exact List.Sublist.refl _ | exact .cons_cons _ (.cons _ (.refl _)) | exact List.nil_sublist _ | exact .cons _ (.refl _) | exact .cons _ (.cons _ (.refl _)) | exact .cons _ (.cons _ (.cons _ (.refl _))) | exact .cons _ (.cons _ (.cons _ (.cons _ (.refl _)))) | exact .cons_cons _ (List.nil_sublist _))⟩ ⟨0, rfl, rfl, Nat.zero_le _⟩ ?_
 rintro nn0 _ ⟨k, rfl, rfl, hk⟩
 refine awp_seq ?_
 refine awp_region ?_
 refine r_cmp rfl rfl rfl rfl ?_
 refine awl_nil ?_
 refine x_then ?_
 refine awp_seq ?_
 refine awp_cond rfl (fun hc0 => ?_) (fun hc0 => ?_)
 ·
  have hltx : k < l.length := by have := of_decide_eq_true hc0; simpa using this
  obtain ⟨x, hx⟩ := get_lt hltx
  have hxd := hda x (List.mem_of_getElem? hx)
  refine awp_skip ?_
  refine x_then ?_
  refine awp_seq ?_
  refine awp_block ?_
  refine awp_seq ?_
  refine awp_region ?_
  refine r_index rfl rfl rfl TF.sl65 TF.sz71 (by omega) (get_map hx) rfl ?_
  refine r_loadA rfl TF.agg71 TF.sz71 rfl rfl ?_
  refine r_alloc TF.zero71 rfl (fun b5 => ?_)
  refine r_store 0 rfl rfl rfl TF.sz71 rfl rfl rfl ?_
  refine awl_nil ?_
  refine x_then ?_
  refine awp_drawS [12, 13, 14, 15, 16, 17, 18, 19, 20] [_, _, _, _, _, _, _, _, _] [[], [], [], [], [], [], [15]] [(3, 15), (6, 15), (8, 20)] TF.mixed rfl rfl rfl ⟨⟨⟨⟨⟨⟨⟨⟨⟨trivial
   , ⟨_, rfl, fun sl hd hr ho => by
     refine r_move (hr 3 _ rfl rfl rfl) rfl ?_
     exact awl_nil ⟨rfl, post_put⟩⟩⟩
   , ⟨_, rfl, fun sl hd hr ho => by
     first | (refine r_fieldb (hr 5 _ rfl rfl rfl) TF.f71_0 TF.sz9 rfl ?_) | (refine r_fieldcp (hr 5 _ rfl rfl rfl) TF.f71_0 TF.sz9 rfl ?_)
     exact awl_nil ⟨rfl, post_put⟩⟩⟩
   , ⟨_, rfl, fun sl hd hr ho => by
     first | (refine r_load1b 0 (hd 1 _ rfl rfl rfl) rfl rfl TF.agg9 rfl ?_) | (refine r_load1 (hd 1 _ rfl rfl rfl) TF.agg9 rfl ?_)
     exact awl_nil ⟨rfl, post_put⟩⟩⟩
   , ⟨_, rfl, fun sl hd hr ho => by
     refine r_lit 15 (parts := []) rfl TF.sl22 TF.sz5 TF.zraw5 rfl rfl parts_nil rfl rfl rfl rfl ?_
     exact awl_nil ⟨rfl, (post_dem (ho 15 (List.mem_of_elem_eq_true rfl)))⟩⟩⟩
   , ⟨_, rfl, fun sl hd hr ho => by
     first | (refine r_fieldb (hr 5 _ rfl rfl rfl) TF.f71_1 TF.sz22 rfl ?_) | (refine r_fieldcp (hr 5 _ rfl rfl rfl) TF.f71_1 TF.sz22 rfl ?_)
     exact awl_nil ⟨rfl, post_put⟩⟩⟩
   , ⟨_, rfl, fun sl hd hr ho => by
     first | (refine r_load1b 0 (hd 4 _ rfl rfl rfl) rfl rfl TF.agg22 rfl ?_) | (refine r_load1 (hd 4 _ rfl rfl rfl) TF.agg22 rfl ?_)
     exact awl_nil ⟨rfl, post_put⟩⟩⟩
   , ⟨_, rfl, fun sl hd hr ho => by
     refine r_append 15 (hd 3 _ rfl rfl rfl) (by first | exact .own _ | exact .nil) (hd 5 _ rfl rfl rfl) (by first | exact .sl _ | exact .own _ _ | exact .nil) TF.sl22 TF.sz5 (by decide) TF.by5 TF.zlen5 (by simp [chunks, u8s]; omega) (by simp [chunks, u8s]; omega) rfl ?_
     exact awl_nil ⟨rfl, (post_dem (ho 15 (List.mem_of_elem_eq_true rfl)))⟩⟩⟩
   , ⟨_, rfl, fun sl hd hr ho => by
     refine r_build (parts := [(0, .tmp 14), (1, .tmp 18)]) rfl TF.pl26 TF.zero26 (parts_cons (hd 2 _ rfl rfl rfl) (parts_cons (hd 6 _ rfl rfl rfl) parts_nil)) rfl rfl ?_
     exact awl_nil ⟨rfl, post_put⟩⟩⟩
   , ⟨_, rfl, fun sl hd hr ho => by
     refine r_lit 20 (parts := [(0, .tmp 19)]) rfl TF.sl24 TF.sz26 TF.zraw26 rfl rfl (parts_cons (hd 7 _ rfl rfl rfl) parts_nil) rfl rfl rfl rfl ?_
     exact awl_nil ⟨rfl, (post_dem (ho 20 (List.mem_of_elem_eq_true rfl)))⟩⟩⟩
   (by rfl) ?_
  refine r_append 3 rfl (by first | exact .own _ | exact .nil) rfl (by first | exact .sl _ | exact .own _ _ | exact .nil) TF.sl24 TF.sz26 (by decide) TF.by26 TF.zlen26 (by simp [chunks] <;> omega) (by simp [chunks] <;> omega) rfl ?_
  refine r_assign rfl rfl ?_
  refine awl_nil ?_
  refine x_block ?_
  refine x_then ?_
  refine awp_region ?_
  refine r_ari _ rfl rfl rfl (wrap_id (by first | omega | (simp; omega))) rfl ?_
  refine r_move rfl rfl ?_
  refine awl_nil ?_
  refine x_then ?_
  refine ⟨l.length - (k + 1), ⟨24, [(3, .own 3 2 ((l.take (k + 1)).map File.cs)), (6, .a (files l)), (7, .a (.v (.int .i64 ((l.map File.cs).length)))), (8, .a (.v (.int .i64 (((k + 1) : Int)))))], []⟩, ⟨rfl, (Slots.cons rfl (by first | exact .refl _ | exact .nilOwn _ _ | exact .nilSl _ | exact .ownSl _ _ _  | exact SV.le.ownEq (by first | rfl | (rw [takeS hx, List.map_append]; rfl) | (rw [takeS hx, List.map_append]; simp [chunks, File.cs, bts, SV.av])) | exact SV.le.of_eq (by first | rfl | (rw [takeS hx, List.map_append]; rfl) | (rw [takeS hx, List.map_append]; simp [chunks, File.cs, bts, SV.av]))) (Slots.cons rfl (by first | exact .refl _ | exact .nilOwn _ _ | exact .nilSl _ | exact .ownSl _ _ _  | exact SV.le.ownEq (by first | rfl | (rw [takeS hx, List.map_append]; rfl) | (rw [takeS hx, List.map_append]; simp [chunks, File.cs, bts, SV.av])) | exact SV.le.of_eq (by first | rfl | (rw [takeS hx, List.map_append]; rfl) | (rw [takeS hx, List.map_append]; simp [chunks, File.cs, bts, SV.av]))) (Slots.cons rfl (by first | exact .refl _ | exact .nilOwn _ _ | exact .nilSl _ | exact .ownSl _ _ _  | exact SV.le.ownEq (by first | rfl | (rw [takeS hx, List.map_append]; rfl) | (rw [takeS hx, List.map_append]; simp [chunks, File.cs, bts, SV.av])) | exact SV.le.of_eq (by first | rfl | (rw [takeS hx, List.map_append]; rfl) | (rw [takeS hx, List.map_append]; simp [chunks, File.cs, bts, SV.av]))) (Slots.cons rfl (by first | exact .refl _ | exact .nilOwn _ _ | exact .nilSl _ | exact .ownSl _ _ _  | exact SV.le.ownEq (by first | rfl | (rw [takeS hx, List.map_append]; rfl) | (rw [takeS hx, List.map_append]; simp [chunks, File.cs, bts, SV.av])) | exact SV.le.of_eq (by first | rfl | (rw [takeS hx, List.map_append]; rfl) | (rw [takeS hx, List.map_append]; simp [chunks, File.cs, bts, SV.av]))) Slots.nil)))), (by first | exact List.Sublist.refl _ | exact .cons_cons _ (.cons _ (.refl _)) | exact List.nil_sublist _ | exact .cons _ (.refl _) | exact .cons _ (.cons _ (.refl _)) | exact .cons _ (.cons _ (.cons _ (.refl _))) | exact .cons _ (.cons _ (.cons _ (.cons _ (.refl _)))) | exact .cons_cons _ (List.nil_sublist _))⟩, (by omega), ⟨k + 1, rfl, rfl, (by omega)⟩⟩
 ·
  have hge : l.length ≤ k := by have := of_decide_eq_false hc0; simp at this; omega
  have hkl : l.take k = l := List.take_of_length_le hge
  refine awp_exit ?_
  refine x_thenE ?_
  refine x_thenE ?_
  refine x_blockE ?_
  refine x_then ?_
  refine awp_seq ?_
  refine awp_region ?_
  refine r_move rfl rfl ?_
  refine r_assign rfl rfl ?_
  refine awl_nil ?_
  refine x_then ?_
  refine awp_ret ?_
  exact ⟨(.inl rfl), _, [], (.one (by first | exact .mk rfl rfl | exact .nil rfl)), ⟨rfl, by rw [hkl]; rfl⟩, (List.nil_sublist _), (by simp)⟩
theorem small_ok (l : List File) : AC Tryd.prog 21 [files l] [] (fun r n => n = [] ∧ (r = .v (.int .i64 0) ∨ (r = .v (.int .i64 1) ∧ l.length ≤ 12 ∧ ∀ f ∈ l, f.name.size ≤ 40 ∧ f.data.length ≤ 300))) := by
 refine ac_of_awp (rs := [2]) (nt := 25) Tryd.func21 rfl rfl rfl rfl (fun w0 C0 hq => ?_)
 refine awp_seq ?_
 refine awp_region ?_
 refine r_assign rfl rfl ?_
 refine awl_nil ?_
 refine x_then ?_
 refine awp_seq ?_
 refine awp_seq ?_
 refine awp_region ?_
 refine r_move rfl rfl ?_
 first | (refine r_lenS rfl rfl TF.sl65 rfl ?_) | (refine r_lenNil rfl TF.sl65 rfl ?_) | (refine r_lenV rfl TF.sl65 rfl ?_)
 refine r_cmp rfl rfl rfl rfl ?_
 refine awl_nil ?_
 refine x_then ?_
 refine awp_cond rfl (fun hc0 => ?_) (fun hc0 => ?_)
 ·
  refine awp_seq ?_
  refine awp_region ?_
  refine r_assign rfl rfl ?_
  refine awl_nil ?_
  refine x_then ?_
  refine awp_ret ?_
  refine x_thenR ?_
  exact ⟨(.inl rfl), _, [], (.one (by first | exact .mk rfl rfl | exact .nil rfl)), ⟨rfl, by first | exact .inl rfl | exact .inr ⟨rfl, hl12, all_end hge hq2⟩⟩, (List.nil_sublist _), (by simp)⟩
 ·
  have hl12 : l.length ≤ 12 := by have := of_decide_eq_false hc0; simp at this; omega
  have hl : l.length ≤ 1000000 := by omega
  refine awp_skip ?_
  refine x_then ?_
  refine awp_seq ?_
  refine awp_seq ?_
  refine awp_region ?_
  refine r_move rfl rfl ?_
  first | (refine r_lenS rfl rfl TF.sl65 rfl ?_) | (refine r_lenNil rfl TF.sl65 rfl ?_) | (refine r_lenV rfl TF.sl65 rfl ?_)
  refine r_move rfl rfl ?_
  refine awl_nil ?_
  refine x_then ?_
  refine awp_block ?_
  refine awp_loop (fun nn0 S => ∃ k : Nat, S = ⟨25, [(8, .a (files l)), (9, .a (.v (.int .i64 ((l.map File.cs).length)))), (10, .a (.v (.int .i64 ((k : Int)))))], []⟩ ∧ nn0 = l.length - k ∧ (k ≤ l.length) ∧ (∀ f ∈ l.take k, f.name.size ≤ 40 ∧ f.data.length ≤ 300)) (l.length - (0)) ⟨25, [(8, .a (files l)), (9, .a (.v (.int .i64 ((l.map File.cs).length)))), (10, .a (.v (.int .i64 (((0) : Int)))))], []⟩ ⟨rfl, (Slots.cons rfl (by first | exact .refl _ | exact .nilOwn _ _ | exact .nilSl _ | exact .ownSl _ _ _  | exact SV.le.of_eq (by simp)) (Slots.cons rfl (by first | exact .refl _ | exact .nilOwn _ _ | exact .nilSl _ | exact .ownSl _ _ _  | exact SV.le.of_eq (by simp)) (Slots.cons rfl (by first | exact .refl _ | exact .nilOwn _ _ | exact .nilSl _ | exact .ownSl _ _ _  | exact SV.le.of_eq (by simp)) Slots.nil))), (by first | exact List.Sublist.refl _ | exact .cons_cons _ (.cons _ (.refl _)) | exact List.nil_sublist _ | exact .cons _ (.refl _) | exact .cons _ (.cons _ (.refl _)) | exact .cons _ (.cons _ (.cons _ (.refl _))) | exact .cons _ (.cons _ (.cons _ (.cons _ (.refl _)))) | exact .cons_cons _ (List.nil_sublist _))⟩ ⟨0, rfl, rfl, Nat.zero_le _, (fun f hf => by simp at hf)⟩ ?_
  rintro nn0 _ ⟨k, rfl, rfl, hk, hq2⟩
  refine awp_seq ?_
  refine awp_region ?_
  refine r_cmp rfl rfl rfl rfl ?_
  refine awl_nil ?_
  refine x_then ?_
  refine awp_seq ?_
  refine awp_cond rfl (fun hc1 => ?_) (fun hc1 => ?_)
  ·
   have hltx : k < l.length := by have := of_decide_eq_true hc1; simpa using this
   obtain ⟨x, hx⟩ := get_lt hltx
   refine awp_skip ?_
   refine x_then ?_
   refine awp_seq ?_
   refine awp_block ?_
   refine awp_seq ?_
   refine awp_region ?_
   refine r_index rfl rfl rfl TF.sl65 TF.sz71 (by omega) (get_map hx) rfl ?_
   refine r_loadA rfl TF.agg71 TF.sz71 rfl rfl ?_
   refine r_alloc TF.zero71 rfl (fun b4 => ?_)
   refine r_store 0 rfl rfl rfl TF.sz71 rfl rfl rfl ?_
   refine awl_nil ?_
   refine x_then ?_
   refine awp_seq ?_
   refine awp_region ?_
   first | (refine r_fieldb rfl TF.f71_0 TF.sz9 rfl ?_) | (refine r_fieldcp rfl TF.f71_0 TF.sz9 rfl ?_)
   first | (refine r_load1b 0 rfl rfl rfl TF.agg9 rfl ?_) | (refine r_load1 rfl TF.agg9 rfl ?_)
   refine r_lenStr rfl TF.un9 rfl ?_
   refine r_cmp rfl rfl rfl rfl ?_
   refine r_move rfl rfl ?_
   refine g_cases (t' := 18) rfl (fun hg18 => ?_) (fun hg18 => ?_)
   ·
    refine g_skip rfl rfl hg18 rfl ?_
    refine g_skip rfl rfl hg18 rfl ?_
    refine g_skip rfl rfl hg18 rfl ?_
    refine g_skip rfl rfl hg18 rfl ?_
    refine r_pickT rfl hg18 rfl rfl ?_
    refine awl_nil ?_
    refine x_then ?_
    refine awp_condT rfl ?_
    refine awp_seq ?_
    refine awp_region ?_
    refine r_assign rfl rfl ?_
    refine awl_nil ?_
    refine x_then ?_
    refine awp_ret ?_
    refine x_blockR ?_
    refine x_thenR ?_
    refine x_thenR ?_
    refine x_blockR ?_
    refine x_thenR ?_
    exact ⟨(.inl rfl), _, [], (.one (by first | exact .mk rfl rfl | exact .nil rfl)), ⟨rfl, by first | exact .inl rfl | exact .inr ⟨rfl, hl12, all_end hge hq2⟩⟩, (List.nil_sublist _), (by simp)⟩
   ·
    have hxn : x.name.size ≤ 40 := by have := of_decide_eq_false hg18; omega
    refine g_run rfl rfl hg18 ?_
    first | (refine r_fieldb rfl TF.f71_1 TF.sz22 rfl ?_) | (refine r_fieldcp rfl TF.f71_1 TF.sz22 rfl ?_)
    refine g_run rfl rfl hg18 ?_
    first | (refine r_load1b 0 rfl rfl rfl TF.agg22 rfl ?_) | (refine r_load1 rfl TF.agg22 rfl ?_)
    refine g_run rfl rfl hg18 ?_
    first | (refine r_lenS rfl rfl TF.sl22 rfl ?_) | (refine r_lenNil rfl TF.sl22 rfl ?_) | (refine r_lenV rfl TF.sl22 rfl ?_)
    refine g_run rfl rfl hg18 ?_
    refine r_cmp rfl rfl rfl rfl ?_
    refine r_pickF rfl hg18 rfl rfl ?_
    refine awl_nil ?_
    refine x_then ?_
    refine awp_cond rfl (fun hc2 => ?_) (fun hc2 => ?_)
    ·
     refine awp_seq ?_
     refine awp_region ?_
     refine r_assign rfl rfl ?_
     refine awl_nil ?_
     refine x_then ?_
     refine awp_ret ?_
     refine x_blockR ?_
     refine x_thenR ?_
     refine x_thenR ?_
     refine x_blockR ?_
     refine x_thenR ?_
     exact ⟨(.inl rfl), _, [], (.one (by first | exact .mk rfl rfl | exact .nil rfl)), ⟨rfl, by first | exact .inl rfl | exact .inr ⟨rfl, hl12, all_end hge hq2⟩⟩, (List.nil_sublist _), (by simp)⟩
    ·
     have hxd : x.data.length ≤ 300 := by have := of_decide_eq_false hc2; rw [u8s_len] at this; omega
     refine awp_skip ?_
     refine x_block ?_
     refine x_then ?_
     refine awp_region ?_
     refine r_ari _ rfl rfl rfl (wrap_id (by first | omega | (simp; omega))) rfl ?_
     refine r_move rfl rfl ?_
     refine awl_nil ?_
     refine x_then ?_
     refine ⟨l.length - (k + 1), ⟨25, [(8, .a (files l)), (9, .a (.v (.int .i64 ((l.map File.cs).length)))), (10, .a (.v (.int .i64 (((k + 1) : Int)))))], []⟩, ⟨rfl, (Slots.cons rfl (by first | exact .refl _ | exact .nilOwn _ _ | exact .nilSl _ | exact .ownSl _ _ _  | exact SV.le.of_eq (by simp)) (Slots.cons rfl (by first | exact .refl _ | exact .nilOwn _ _ | exact .nilSl _ | exact .ownSl _ _ _  | exact SV.le.of_eq (by simp)) (Slots.cons rfl (by first | exact .refl _ | exact .nilOwn _ _ | exact .nilSl _ | exact .ownSl _ _ _  | exact SV.le.of_eq (by simp)) Slots.nil))), (by first | exact List.Sublist.refl _ | exact .cons_cons _ (.cons _ (.refl _)) | exact List.nil_sublist _ | exact .cons _ (.refl _) | exact .cons _ (.cons _ (.refl _)) | exact .cons _ (.cons _ (.cons _ (.refl _))) | exact .cons _ (.cons _ (.cons _ (.cons _ (.refl _)))) | exact .cons_cons _ (List.nil_sublist _))⟩, (by omega), ⟨k + 1, rfl, rfl, (by omega), (all_takeS hx hq2 ⟨hxn, hxd⟩)⟩⟩
  ·
   have hge : l.length ≤ k := by have := of_decide_eq_false hc1; simp at this; omega
   refine awp_exit ?_
   refine x_thenE ?_
   refine x_thenE ?_
   refine x_blockE ?_
   refine x_then ?_
   refine awp_seq ?_
   refine awp_region ?_
   refine r_assign rfl rfl ?_
   refine awl_nil ?_
   refine x_then ?_
   refine awp_ret ?_
   exact ⟨(.inl rfl), _, [], (.one (by first | exact .mk rfl rfl | exact .nil rfl)), ⟨rfl, by first | exact .inl rfl | exact .inr ⟨rfl, hl12, all_end hge hq2⟩⟩, (List.nil_sublist _), (by simp)⟩
theorem alike_ok (l : List File) (hl : l.length ≤ 1000000) : AC Tryd.prog 29 [files l, files l] [] (fun r n => n = [] ∧ r = .v (.int .i64 1)) := by
 refine ac_of_awp (rs := [4]) (nt := 43) Tryd.func29 rfl rfl rfl rfl (fun w0 C0 hq => ?_)
 refine awp_seq ?_
 refine awp_region ?_
 refine r_assign rfl rfl ?_
 refine awl_nil ?_
 refine x_then ?_
 refine awp_seq ?_
 refine awp_seq ?_
 refine awp_region ?_
 refine r_move rfl rfl ?_
 first | (refine r_lenS rfl rfl TF.sl24 rfl ?_) | (refine r_lenNil rfl TF.sl24 rfl ?_) | (refine r_lenV rfl TF.sl24 rfl ?_)
 refine r_move rfl rfl ?_
 first | (refine r_lenS rfl rfl TF.sl65 rfl ?_) | (refine r_lenNil rfl TF.sl65 rfl ?_) | (refine r_lenV rfl TF.sl65 rfl ?_)
 refine r_cmp rfl rfl rfl rfl ?_
 refine awl_nil ?_
 refine x_then ?_
 refine awp_cond rfl (fun hc0 => ?_) (fun hc0 => ?_)
 ·
  exfalso; simp at hc0
 ·
  refine awp_skip ?_
  refine x_then ?_
  refine awp_seq ?_
  refine awp_seq ?_
  refine awp_region ?_
  refine r_move rfl rfl ?_
  first | (refine r_lenS rfl rfl TF.sl24 rfl ?_) | (refine r_lenNil rfl TF.sl24 rfl ?_) | (refine r_lenV rfl TF.sl24 rfl ?_)
  refine r_move rfl rfl ?_
  refine awl_nil ?_
  refine x_then ?_
  refine awp_block ?_
  refine awp_loop (fun nn0 S => ∃ k : Nat, S = ⟨43, [(0, .a (files l)), (1, .a (files l)), (12, .a (.v (.int .i64 ((l.map File.cs).length)))), (13, .a (.v (.int .i64 ((k : Int)))))], []⟩ ∧ nn0 = l.length - k ∧ (k ≤ l.length)) (l.length - (0)) ⟨43, [(0, .a (files l)), (1, .a (files l)), (12, .a (.v (.int .i64 ((l.map File.cs).length)))), (13, .a (.v (.int .i64 (((0) : Int)))))], []⟩ ⟨rfl, (Slots.cons rfl (by first | exact .refl _ | exact .nilOwn _ _ | exact .nilSl _ | exact .ownSl _ _ _  | exact SV.le.of_eq (by simp)) (Slots.cons rfl (by first | exact .refl _ | exact .nilOwn _ _ | exact .nilSl _ | exact .ownSl _ _ _  | exact SV.le.of_eq (by simp)) (Slots.cons rfl (by first | exact .refl _ | exact .nilOwn _ _ | exact .nilSl _ | exact .ownSl _ _ _  | exact SV.le.of_eq (by simp)) (Slots.cons rfl (by first | exact .refl _ | exact .nilOwn _ _ | exact .nilSl _ | exact .ownSl _ _ _  | exact SV.le.of_eq (by simp)) Slots.nil)))), (by first | exact List.Sublist.refl _ | exact .cons_cons _ (.cons _ (.refl _)) | exact List.nil_sublist _ | exact .cons _ (.refl _) | exact .cons _ (.cons _ (.refl _)) | exact .cons _ (.cons _ (.cons _ (.refl _))) | exact .cons _ (.cons _ (.cons _ (.cons _ (.refl _)))) | exact .cons_cons _ (List.nil_sublist _))⟩ ⟨0, rfl, rfl, Nat.zero_le _⟩ ?_
  rintro nn0 _ ⟨k, rfl, rfl, hk⟩
  refine awp_seq ?_
  refine awp_region ?_
  refine r_cmp rfl rfl rfl rfl ?_
  refine awl_nil ?_
  refine x_then ?_
  refine awp_seq ?_
  refine awp_cond rfl (fun hc1 => ?_) (fun hc1 => ?_)
  ·
   have hltx : k < l.length := by have := of_decide_eq_true hc1; simpa using this
   obtain ⟨x, hx⟩ := get_lt hltx
   refine awp_skip ?_
   refine x_then ?_
   refine awp_seq ?_
   refine awp_block ?_
   refine awp_seq ?_
   refine awp_region ?_
   refine r_move rfl rfl ?_
   refine r_assign rfl rfl ?_
   refine awl_nil ?_
   refine x_then ?_
   refine awp_seq ?_
   refine awp_drawS [16, 17, 18, 19, 20, 21, 22, 23, 24, 25, 26, 27, 28, 29, 30, 31, 32, 33, 34, 35, 36, 37, 38, 39] [_, _, _, _, _, _, _, _, _, _, _, _, _, _, _, _, _, _, _, _, _, _, _, _] [] [] TF.mixed rfl rfl rfl ⟨⟨⟨⟨⟨⟨⟨⟨⟨⟨⟨⟨⟨⟨⟨⟨⟨⟨⟨⟨⟨⟨⟨⟨trivial
    , ⟨_, rfl, fun sl hd hr ho => by
      refine r_move (hr 0 _ rfl rfl rfl) rfl ?_
      exact awl_nil ⟨rfl, post_put⟩⟩⟩
    , ⟨_, rfl, fun sl hd hr ho => by
      refine r_move (hr 5 _ rfl rfl rfl) rfl ?_
      exact awl_nil ⟨rfl, post_put⟩⟩⟩
    , ⟨_, rfl, fun sl hd hr ho => by
      refine r_index (hd 0 _ rfl rfl rfl) rfl (hd 1 _ rfl rfl rfl) TF.sl24 TF.sz26 (by omega) (get_map hx) rfl ?_
      exact awl_nil ⟨rfl, post_put⟩⟩⟩
    , ⟨_, rfl, fun sl hd hr ho => by
      first | (refine r_fieldcp (hd 2 _ rfl rfl rfl) TF.f26_0 TF.sz9 rfl ?_) | (refine r_fieldb (hd 2 _ rfl rfl rfl) TF.f26_0 TF.sz9 rfl ?_)
      exact awl_nil ⟨rfl, post_put⟩⟩⟩
    , ⟨_, rfl, fun sl hd hr ho => by
      refine r_load1 (hd 3 _ rfl rfl rfl) TF.agg9 rfl ?_
      exact awl_nil ⟨rfl, post_put⟩⟩⟩
    , ⟨_, rfl, fun sl hd hr ho => by
      refine r_move (hr 1 _ rfl rfl rfl) rfl ?_
      exact awl_nil ⟨rfl, post_put⟩⟩⟩
    , ⟨_, rfl, fun sl hd hr ho => by
      refine r_move (hr 5 _ rfl rfl rfl) rfl ?_
      exact awl_nil ⟨rfl, post_put⟩⟩⟩
    , ⟨_, rfl, fun sl hd hr ho => by
      refine r_index (hd 5 _ rfl rfl rfl) rfl (hd 6 _ rfl rfl rfl) TF.sl65 TF.sz71 (by omega) (get_map hx) rfl ?_
      exact awl_nil ⟨rfl, post_put⟩⟩⟩
    , ⟨_, rfl, fun sl hd hr ho => by
      first | (refine r_fieldcp (hd 7 _ rfl rfl rfl) TF.f71_0 TF.sz9 rfl ?_) | (refine r_fieldb (hd 7 _ rfl rfl rfl) TF.f71_0 TF.sz9 rfl ?_)
      exact awl_nil ⟨rfl, post_put⟩⟩⟩
    , ⟨_, rfl, fun sl hd hr ho => by
      refine r_load1 (hd 8 _ rfl rfl rfl) TF.agg9 rfl ?_
      exact awl_nil ⟨rfl, post_put⟩⟩⟩
    , ⟨_, rfl, fun sl hd hr ho => by
      refine r_str2 (hd 4 _ rfl rfl rfl) (hd 9 _ rfl rfl rfl) rfl rfl ?_
      exact awl_nil ⟨rfl, post_put⟩⟩⟩
    , ⟨_, rfl, fun sl hd hr ho => by
      refine r_move (hd 10 _ rfl rfl rfl) rfl ?_
      exact awl_nil ⟨rfl, post_put⟩⟩⟩
    , ⟨_, rfl, fun sl hd hr ho => by
      refine g_run rfl (hd 11 _ rfl rfl rfl) (by simp) ?_
      refine r_move (hr 0 _ rfl rfl rfl) rfl ?_
      exact awl_nil ⟨rfl, post_put⟩⟩⟩
    , ⟨_, rfl, fun sl hd hr ho => by
      refine g_run rfl (hd 11 _ rfl rfl rfl) (by simp) ?_
      refine r_move (hr 5 _ rfl rfl rfl) rfl ?_
      exact awl_nil ⟨rfl, post_put⟩⟩⟩
    , ⟨_, rfl, fun sl hd hr ho => by
      refine g_run rfl (hd 11 _ rfl rfl rfl) (by simp) ?_
      refine r_index (hd 12 _ rfl rfl rfl) rfl (hd 13 _ rfl rfl rfl) TF.sl24 TF.sz26 (by omega) (get_map hx) rfl ?_
      exact awl_nil ⟨rfl, post_put⟩⟩⟩
    , ⟨_, rfl, fun sl hd hr ho => by
      refine g_run rfl (hd 11 _ rfl rfl rfl) (by simp) ?_
      first | (refine r_fieldcp (hd 14 _ rfl rfl rfl) TF.f26_1 TF.sz22 rfl ?_) | (refine r_fieldb (hd 14 _ rfl rfl rfl) TF.f26_1 TF.sz22 rfl ?_)
      exact awl_nil ⟨rfl, post_put⟩⟩⟩
    , ⟨_, rfl, fun sl hd hr ho => by
      refine g_run rfl (hd 11 _ rfl rfl rfl) (by simp) ?_
      refine r_load1 (hd 15 _ rfl rfl rfl) TF.agg22 rfl ?_
      exact awl_nil ⟨rfl, post_put⟩⟩⟩
    , ⟨_, rfl, fun sl hd hr ho => by
      refine g_run rfl (hd 11 _ rfl rfl rfl) (by simp) ?_
      refine r_convBS x.data (hd 16 _ rfl rfl rfl) rfl TF.sl22 TF.un5 TF.un9 rfl ?_
      exact awl_nil ⟨rfl, post_put⟩⟩⟩
    , ⟨_, rfl, fun sl hd hr ho => by
      refine g_run rfl (hd 11 _ rfl rfl rfl) (by simp) ?_
      refine r_move (hr 1 _ rfl rfl rfl) rfl ?_
      exact awl_nil ⟨rfl, post_put⟩⟩⟩
    , ⟨_, rfl, fun sl hd hr ho => by
      refine g_run rfl (hd 11 _ rfl rfl rfl) (by simp) ?_
      refine r_move (hr 5 _ rfl rfl rfl) rfl ?_
      exact awl_nil ⟨rfl, post_put⟩⟩⟩
    , ⟨_, rfl, fun sl hd hr ho => by
      refine g_run rfl (hd 11 _ rfl rfl rfl) (by simp) ?_
      refine r_index (hd 18 _ rfl rfl rfl) rfl (hd 19 _ rfl rfl rfl) TF.sl65 TF.sz71 (by omega) (get_map hx) rfl ?_
      exact awl_nil ⟨rfl, post_put⟩⟩⟩
    , ⟨_, rfl, fun sl hd hr ho => by
      refine g_run rfl (hd 11 _ rfl rfl rfl) (by simp) ?_
      first | (refine r_fieldcp (hd 20 _ rfl rfl rfl) TF.f71_1 TF.sz22 rfl ?_) | (refine r_fieldb (hd 20 _ rfl rfl rfl) TF.f71_1 TF.sz22 rfl ?_)
      exact awl_nil ⟨rfl, post_put⟩⟩⟩
    , ⟨_, rfl, fun sl hd hr ho => by
      refine g_run rfl (hd 11 _ rfl rfl rfl) (by simp) ?_
      refine r_load1 (hd 21 _ rfl rfl rfl) TF.agg22 rfl ?_
      exact awl_nil ⟨rfl, post_put⟩⟩⟩
    , ⟨_, rfl, fun sl hd hr ho => by
      refine g_run rfl (hd 11 _ rfl rfl rfl) (by simp) ?_
      refine r_convBS x.data (hd 22 _ rfl rfl rfl) rfl TF.sl22 TF.un5 TF.un9 rfl ?_
      exact awl_nil ⟨rfl, post_put⟩⟩⟩
    (by rfl) ?_
   refine g_run rfl rfl (by simp) ?_
   refine r_str2 rfl rfl rfl rfl ?_
   refine r_pickF rfl (by simp) rfl rfl ?_
   refine awl_nil ?_
   refine x_then ?_
   refine awp_cond rfl (fun hc2 => ?_) (fun hc2 => ?_)
   ·
    exfalso; simp at hc2
   ·
    refine awp_skip ?_
    refine x_block ?_
    refine x_then ?_
    refine awp_region ?_
    refine r_ari _ rfl rfl rfl (wrap_id (by first | omega | (simp; omega))) rfl ?_
    refine r_move rfl rfl ?_
    refine awl_nil ?_
    refine x_then ?_
    refine ⟨l.length - (k + 1), ⟨43, [(0, .a (files l)), (1, .a (files l)), (12, .a (.v (.int .i64 ((l.map File.cs).length)))), (13, .a (.v (.int .i64 (((k + 1) : Int)))))], []⟩, ⟨rfl, (Slots.cons rfl (by first | exact .refl _ | exact .nilOwn _ _ | exact .nilSl _ | exact .ownSl _ _ _  | exact SV.le.of_eq (by simp)) (Slots.cons rfl (by first | exact .refl _ | exact .nilOwn _ _ | exact .nilSl _ | exact .ownSl _ _ _  | exact SV.le.of_eq (by simp)) (Slots.cons rfl (by first | exact .refl _ | exact .nilOwn _ _ | exact .nilSl _ | exact .ownSl _ _ _  | exact SV.le.of_eq (by simp)) (Slots.cons rfl (by first | exact .refl _ | exact .nilOwn _ _ | exact .nilSl _ | exact .ownSl _ _ _  | exact SV.le.of_eq (by simp)) Slots.nil)))), (by first | exact List.Sublist.refl _ | exact .cons_cons _ (.cons _ (.refl _)) | exact List.nil_sublist _ | exact .cons _ (.refl _) | exact .cons _ (.cons _ (.refl _)) | exact .cons _ (.cons _ (.cons _ (.refl _))) | exact .cons _ (.cons _ (.cons _ (.cons _ (.refl _)))) | exact .cons_cons _ (List.nil_sublist _))⟩, (by omega), ⟨k + 1, rfl, rfl, (by omega)⟩⟩
  ·
   refine awp_exit ?_
   refine x_thenE ?_
   refine x_thenE ?_
   refine x_blockE ?_
   refine x_then ?_
   refine awp_seq ?_
   refine awp_region ?_
   refine r_assign rfl rfl ?_
   refine awl_nil ?_
   refine x_then ?_
   refine awp_ret ?_
   exact ⟨(.inl rfl), _, [], (.one (by first | exact .mk rfl rfl | exact .nil rfl)), ⟨rfl, rfl⟩, (List.nil_sublist _), (by simp)⟩
theorem fsame1_ok (x y : File) : AC Tryd.prog 53 [.agg (File.cs x), .agg (File.cs y)] [] (fun r n => n = [] ∧ r = boolA (decide (x.name = y.name) && decide (x.data = y.data))) := by
 refine ac_of_awp (rs := [4]) (nt := 17) Tryd.func53 rfl rfl rfl rfl (fun w0 C0 hq => ?_)
 refine awp_seq ?_
 refine awp_region ?_
 refine r_box rfl rfl rfl (fun b2 => ?_)
 refine r_box rfl rfl rfl (fun b3 => ?_)
 refine r_assign rfl rfl ?_
 refine awl_nil ?_
 refine x_then ?_
 refine awp_seq ?_
 refine awp_region ?_
 first | (refine r_fieldb rfl TF.f26_0 TF.sz9 rfl ?_) | (refine r_fieldcp rfl TF.f26_0 TF.sz9 rfl ?_)
 refine r_load1b 1 rfl rfl rfl TF.agg9 rfl ?_
 first | (refine r_fieldb rfl TF.f26_0 TF.sz9 rfl ?_) | (refine r_fieldcp rfl TF.f26_0 TF.sz9 rfl ?_)
 refine r_load1b 0 rfl rfl rfl TF.agg9 rfl ?_
 refine r_str2 rfl rfl rfl rfl ?_
 refine r_move rfl rfl ?_
 refine g_cases (t' := 10) rfl (fun hg10 => ?_) (fun hg10 => ?_)
 ·
  have h1 : x.name = y.name := by simpa using hg10
  refine g_run rfl rfl hg10 ?_
  first | (refine r_fieldb rfl TF.f26_1 TF.sz22 rfl ?_) | (refine r_fieldcp rfl TF.f26_1 TF.sz22 rfl ?_)
  refine g_run rfl rfl hg10 ?_
  refine r_load1b 1 rfl rfl rfl TF.agg22 rfl ?_
  refine g_run rfl rfl hg10 ?_
  first | (refine r_fieldb rfl TF.f26_1 TF.sz22 rfl ?_) | (refine r_fieldcp rfl TF.f26_1 TF.sz22 rfl ?_)
  refine g_run rfl rfl hg10 ?_
  refine r_load1b 0 rfl rfl rfl TF.agg22 rfl ?_
  refine g_run rfl rfl hg10 ?_
  refine r_call0 hq rfl rfl (.cons (.ev rfl rfl) (.cons (.ev rfl rfl) .nil)) (equal_ok x.data y.data) rfl TF.en35 rfl (fun r hr => ?_)
  obtain rfl := hr
  refine r_pickT rfl hg10 rfl rfl ?_
  refine r_assign rfl rfl ?_
  refine awl_nil ?_
  refine x_then ?_
  refine awp_ret ?_
  exact ⟨(.inl rfl), _, [], (.one (by first | exact .mk rfl rfl | exact .nil rfl)), ⟨rfl, by first | (rw [decide_eq_true h1, Bool.true_and]; rfl) | (rw [decide_eq_false h1, Bool.false_and]; rfl)⟩, (List.nil_sublist _), (by simp)⟩
 ·
  have h1 : ¬ x.name = y.name := by simpa using hg10
  refine g_skip rfl rfl hg10 rfl ?_
  refine g_skip rfl rfl hg10 rfl ?_
  refine g_skip rfl rfl hg10 rfl ?_
  refine g_skip rfl rfl hg10 rfl ?_
  refine g_skip rfl rfl hg10 rfl ?_
  refine r_pickF rfl hg10 rfl rfl ?_
  refine r_assign rfl rfl ?_
  refine awl_nil ?_
  refine x_then ?_
  refine awp_ret ?_
  exact ⟨(.inl rfl), _, [], (.one (by first | exact .mk rfl rfl | exact .nil rfl)), ⟨rfl, by first | (rw [decide_eq_true h1, Bool.true_and]; rfl) | (rw [decide_eq_false h1, Bool.false_and]; rfl)⟩, (List.nil_sublist _), (by simp)⟩
theorem eqf_ok (l : List File) (hl : l.length ≤ 1000000) : AC Tryd.prog 52 [files l, files l, .fn 53 []] [] (fun r n => n = [] ∧ r = boolA true) := by
 refine ac_of_awp (rs := [6]) (nt := 32) Tryd.func52 rfl rfl rfl rfl (fun w0 C0 hq => ?_)
 refine awp_seq ?_
 refine awp_region ?_
 refine r_assign rfl rfl ?_
 refine awl_nil ?_
 refine x_then ?_
 refine awp_seq ?_
 refine awp_seq ?_
 refine awp_region ?_
 refine r_move rfl rfl ?_
 first | (refine r_lenS rfl rfl TF.sl24 rfl ?_) | (refine r_lenNil rfl TF.sl24 rfl ?_) | (refine r_lenV rfl TF.sl24 rfl ?_)
 refine r_move rfl rfl ?_
 first | (refine r_lenS rfl rfl TF.sl24 rfl ?_) | (refine r_lenNil rfl TF.sl24 rfl ?_) | (refine r_lenV rfl TF.sl24 rfl ?_)
 refine r_cmp rfl rfl rfl rfl ?_
 refine awl_nil ?_
 refine x_then ?_
 refine awp_cond rfl (fun hc0 => ?_) (fun hc0 => ?_)
 ·
  exfalso; simp at hc0
 ·
  refine awp_skip ?_
  refine x_then ?_
  refine awp_seq ?_
  refine awp_seq ?_
  refine awp_region ?_
  refine r_move rfl rfl ?_
  first | (refine r_lenS rfl rfl TF.sl24 rfl ?_) | (refine r_lenNil rfl TF.sl24 rfl ?_) | (refine r_lenV rfl TF.sl24 rfl ?_)
  refine r_move rfl rfl ?_
  refine awl_nil ?_
  refine x_then ?_
  refine awp_block ?_
  refine awp_loop (fun nn0 S => ∃ k : Nat, S = ⟨32, [(1, .a (files l)), (2, .a (.fn 53 [])), (15, .a (files l)), (16, .a (.v (.int .i64 ((l.map File.cs).length)))), (17, .a (.v (.int .i64 ((k : Int)))))], []⟩ ∧ nn0 = l.length - k ∧ (k ≤ l.length)) (l.length - (0)) ⟨32, [(1, .a (files l)), (2, .a (.fn 53 [])), (15, .a (files l)), (16, .a (.v (.int .i64 ((l.map File.cs).length)))), (17, .a (.v (.int .i64 (((0) : Int)))))], []⟩ ⟨rfl, (Slots.cons rfl (by first | exact .refl _ | exact .nilOwn _ _ | exact .nilSl _ | exact .ownSl _ _ _  | exact SV.le.of_eq (by simp)) (Slots.cons rfl (by first | exact .refl _ | exact .nilOwn _ _ | exact .nilSl _ | exact .ownSl _ _ _  | exact SV.le.of_eq (by simp)) (Slots.cons rfl (by first | exact .refl _ | exact .nilOwn _ _ | exact .nilSl _ | exact .ownSl _ _ _  | exact SV.le.of_eq (by simp)) (Slots.cons rfl (by first | exact .refl _ | exact .nilOwn _ _ | exact .nilSl _ | exact .ownSl _ _ _  | exact SV.le.of_eq (by simp)) (Slots.cons rfl (by first | exact .refl _ | exact .nilOwn _ _ | exact .nilSl _ | exact .ownSl _ _ _  | exact SV.le.of_eq (by simp)) Slots.nil))))), (by first | exact List.Sublist.refl _ | exact .cons_cons _ (.cons _ (.refl _)) | exact List.nil_sublist _ | exact .cons _ (.refl _) | exact .cons _ (.cons _ (.refl _)) | exact .cons _ (.cons _ (.cons _ (.refl _))) | exact .cons _ (.cons _ (.cons _ (.cons _ (.refl _)))) | exact .cons_cons _ (List.nil_sublist _))⟩ ⟨0, rfl, rfl, Nat.zero_le _⟩ ?_
  rintro nn0 _ ⟨k, rfl, rfl, hk⟩
  refine awp_seq ?_
  refine awp_region ?_
  refine r_cmp rfl rfl rfl rfl ?_
  refine awl_nil ?_
  refine x_then ?_
  refine awp_seq ?_
  refine awp_cond rfl (fun hc1 => ?_) (fun hc1 => ?_)
  ·
   have hltx : k < l.length := by have := of_decide_eq_true hc1; simpa using this
   obtain ⟨x, hx⟩ := get_lt hltx
   refine awp_skip ?_
   refine x_then ?_
   refine awp_seq ?_
   refine awp_block ?_
   refine awp_seq ?_
   refine awp_region ?_
   refine r_move rfl rfl ?_
   refine r_index rfl rfl rfl TF.sl24 TF.sz26 (by omega) (get_map hx) rfl ?_
   refine r_loadA rfl TF.agg26 TF.sz26 rfl rfl ?_
   refine r_alloc TF.zero26 rfl (fun b8 => ?_)
   refine r_assign rfl rfl ?_
   refine r_store 0 rfl rfl rfl TF.sz26 rfl rfl rfl ?_
   refine awl_nil ?_
   refine x_then ?_
   refine awp_seq ?_
   refine awp_region ?_
   refine r_move rfl rfl ?_
   refine r_move rfl rfl ?_
   refine r_index rfl rfl rfl TF.sl24 TF.sz26 (by omega) (get_map hx) rfl ?_
   first | (refine r_loadA rfl TF.agg26 TF.sz26 rfl rfl ?_) | (refine r_loadAb 0 rfl rfl TF.agg26 TF.sz26 rfl rfl ?_)
   refine r_alloc TF.zero26 rfl (fun b9 => ?_)
   first | (refine r_store 0 rfl rfl rfl TF.sz26 rfl rfl rfl ?_) | (refine r_store 1 rfl rfl rfl TF.sz26 rfl rfl rfl ?_)
   refine awl_nil ?_
   refine x_then ?_
   refine awp_seq ?_
   refine awp_region ?_
   refine r_move rfl rfl ?_
   refine r_loadAb 1 rfl rfl TF.agg26 TF.sz26 rfl rfl ?_
   refine r_loadAb 0 rfl rfl TF.agg26 TF.sz26 rfl rfl ?_
   refine r_call0 hq rfl rfl (.cons (.ev rfl rfl) (.cons (.ev rfl rfl) .nil)) (fsame1_ok x x) rfl TF.en53 rfl (fun r hr => ?_)
   obtain rfl := hr
   refine r_not rfl rfl ?_
   refine awl_nil ?_
   refine x_then ?_
   refine awp_cond rfl (fun hc2 => ?_) (fun hc2 => ?_)
   ·
    exfalso; simp at hc2
   ·
    refine awp_skip ?_
    refine x_block ?_
    refine x_then ?_
    refine awp_region ?_
    refine r_ari _ rfl rfl rfl (wrap_id (by first | omega | (simp; omega))) rfl ?_
    refine r_move rfl rfl ?_
    refine awl_nil ?_
    refine x_then ?_
    refine ⟨l.length - (k + 1), ⟨32, [(1, .a (files l)), (2, .a (.fn 53 [])), (15, .a (files l)), (16, .a (.v (.int .i64 ((l.map File.cs).length)))), (17, .a (.v (.int .i64 (((k + 1) : Int)))))], []⟩, ⟨rfl, (Slots.cons rfl (by first | exact .refl _ | exact .nilOwn _ _ | exact .nilSl _ | exact .ownSl _ _ _  | exact SV.le.of_eq (by simp)) (Slots.cons rfl (by first | exact .refl _ | exact .nilOwn _ _ | exact .nilSl _ | exact .ownSl _ _ _  | exact SV.le.of_eq (by simp)) (Slots.cons rfl (by first | exact .refl _ | exact .nilOwn _ _ | exact .nilSl _ | exact .ownSl _ _ _  | exact SV.le.of_eq (by simp)) (Slots.cons rfl (by first | exact .refl _ | exact .nilOwn _ _ | exact .nilSl _ | exact .ownSl _ _ _  | exact SV.le.of_eq (by simp)) (Slots.cons rfl (by first | exact .refl _ | exact .nilOwn _ _ | exact .nilSl _ | exact .ownSl _ _ _  | exact SV.le.of_eq (by simp)) Slots.nil))))), (by first | exact List.Sublist.refl _ | exact .cons_cons _ (.cons _ (.refl _)) | exact List.nil_sublist _ | exact .cons _ (.refl _) | exact .cons _ (.cons _ (.refl _)) | exact .cons _ (.cons _ (.cons _ (.refl _))) | exact .cons _ (.cons _ (.cons _ (.cons _ (.refl _)))) | exact .cons_cons _ (List.nil_sublist _))⟩, (by omega), ⟨k + 1, rfl, rfl, (by omega)⟩⟩
  ·
   refine awp_exit ?_
   refine x_thenE ?_
   refine x_thenE ?_
   refine x_blockE ?_
   refine x_then ?_
   refine awp_seq ?_
   refine awp_region ?_
   refine r_assign rfl rfl ?_
   refine awl_nil ?_
   refine x_then ?_
   refine awp_ret ?_
   exact ⟨(.inl rfl), _, [], (.one (by first | exact .mk rfl rfl | exact .nil rfl)), ⟨rfl, rfl⟩, (List.nil_sublist _), (by simp)⟩
theorem fsame_ok (l : List File) (hl : l.length ≤ 1000000) : AC Tryd.prog 17 [files l, files l] [] (fun r n => n = [] ∧ r = boolA true) := by
 refine ac_of_awp (rs := [4]) (nt := 8) Tryd.func17 rfl rfl rfl rfl (fun w0 C0 hq => ?_)
 refine awp_seq ?_
 refine awp_region ?_
 refine r_assign rfl rfl ?_
 refine awl_nil ?_
 refine x_then ?_
 refine awp_seq ?_
 refine awp_region ?_
 refine r_move rfl rfl ?_
 refine r_move rfl rfl ?_
 refine r_call0 hq rfl rfl (.cons (.ev rfl rfl) (.cons (.ev rfl rfl) (.cons (.ev rfl rfl) .nil))) (eqf_ok l hl) rfl TF.en52 rfl (fun r hr => ?_)
 obtain rfl := hr
 refine r_assign rfl rfl ?_
 refine awl_nil ?_
 refine x_then ?_
 refine awp_ret ?_
 exact ⟨(.inl rfl), _, [], (.one (by first | exact .mk rfl rfl | exact .nil rfl)), ⟨rfl, rfl⟩, (List.nil_sublist _), (by simp)⟩
theorem find_ok (l : List File) (name : ByteArray) (hl : l.length ≤ 1000000) : AC Tryd.prog 74 [files l, strA name] [] (fun r n => n = [] ∧ r = .v (.int .i64 (optI (l.findIdx? (fun f => decide (f.name = name)))))) := by
 refine ac_of_awp (rs := [4]) (nt := 20) Tryd.func74 rfl rfl rfl rfl (fun w0 C0 hq => ?_)
 refine awp_seq ?_
 refine awp_region ?_
 refine r_assign rfl rfl ?_
 refine awl_nil ?_
 refine x_then ?_
 refine awp_seq ?_
 refine awp_seq ?_
 refine awp_region ?_
 refine r_assign rfl rfl ?_
 refine awl_nil ?_
 refine x_then ?_
 refine awp_block ?_
 refine awp_loop (fun nn0 S => ∃ k : Nat, S = ⟨20, [(0, .a (files l)), (1, .a (strA name)), (5, .a (.v (.int .i64 ((k : Int)))))], []⟩ ∧ nn0 = l.length - k ∧ (k ≤ l.length) ∧ ((l.take k).findIdx? (fun x => decide (x.name = name)) = none)) (l.length - (0)) ⟨20, [(0, .a (files l)), (1, .a (strA name)), (5, .a (.v (.int .i64 (((0) : Int)))))], []⟩ ⟨rfl, (Slots.cons rfl (by first | exact .refl _ | exact .nilOwn _ _ | exact .nilSl _ | exact .ownSl _ _ _  | exact SV.le.of_eq (by simp)) (Slots.cons rfl (by first | exact .refl _ | exact .nilOwn _ _ | exact .nilSl _ | exact .ownSl _ _ _  | exact SV.le.of_eq (by simp)) (Slots.cons rfl (by first | exact .refl _ | exact .nilOwn _ _ | exact .nilSl _ | exact .ownSl _ _ _  | exact SV.le.of_eq (by simp)) Slots.nil))), (by first | exact List.Sublist.refl _ | exact .cons_cons _ (.cons _ (.refl _)) | exact List.nil_sublist _ | exact .cons _ (.refl _) | exact .cons _ (.cons _ (.refl _)) | exact .cons _ (.cons _ (.cons _ (.refl _))) | exact .cons _ (.cons _ (.cons _ (.cons _ (.refl _)))) | exact .cons_cons _ (List.nil_sublist _))⟩ ⟨0, rfl, rfl, Nat.zero_le _, rfl⟩ ?_
 rintro nn0 _ ⟨k, rfl, rfl, hk, hno⟩
 refine awp_seq ?_
 refine awp_seq ?_
 refine awp_region ?_
 refine r_move rfl rfl ?_
 refine r_move rfl rfl ?_
 first | (refine r_lenS rfl rfl TF.sl65 rfl ?_) | (refine r_lenNil rfl TF.sl65 rfl ?_) | (refine r_lenV rfl TF.sl65 rfl ?_)
 refine r_cmp rfl rfl rfl rfl ?_
 refine awl_nil ?_
 refine x_then ?_
 refine awp_cond rfl (fun hc0 => ?_) (fun hc0 => ?_)
 ·
  have hltx : k < l.length := by have := of_decide_eq_true hc0; simpa using this
  obtain ⟨x, hx⟩ := get_lt hltx
  refine awp_skip ?_
  refine x_then ?_
  refine awp_seq ?_
  refine awp_block ?_
  refine awp_seq ?_
  refine awp_region ?_
  refine r_move rfl rfl ?_
  refine r_move rfl rfl ?_
  refine r_index rfl rfl rfl TF.sl65 TF.sz71 (by omega) (get_map hx) rfl ?_
  first | (refine r_fieldcp rfl TF.f71_0 TF.sz9 rfl ?_) | (refine r_fieldb rfl TF.f71_0 TF.sz9 rfl ?_)
  refine r_load1 rfl TF.agg9 rfl ?_
  refine r_move rfl rfl ?_
  refine r_str2 rfl rfl rfl rfl ?_
  refine awl_nil ?_
  refine x_then ?_
  refine awp_cond rfl (fun hc1 => ?_) (fun hc1 => ?_)
  ·
   refine awp_seq ?_
   refine awp_region ?_
   refine r_move rfl rfl ?_
   refine r_assign rfl rfl ?_
   refine awl_nil ?_
   refine x_then ?_
   refine awp_ret ?_
   refine x_blockR ?_
   refine x_thenR ?_
   refine x_thenR ?_
   refine x_blockR ?_
   refine x_thenR ?_
   exact ⟨(.inl rfl), _, [], (.one (by first | exact .mk rfl rfl | exact .nil rfl)), ⟨rfl, by rw [fidx_hit hx hc1 hno]; rfl⟩, (List.nil_sublist _), (by simp)⟩
  ·
   refine awp_skip ?_
   refine x_block ?_
   refine x_then ?_
   refine awp_region ?_
   refine r_move rfl rfl ?_
   refine r_ari _ rfl rfl rfl (wrap_id (by first | omega | (simp; omega))) rfl ?_
   refine r_assign rfl rfl ?_
   refine awl_nil ?_
   refine x_then ?_
   refine ⟨l.length - (k + 1), ⟨20, [(0, .a (files l)), (1, .a (strA name)), (5, .a (.v (.int .i64 (((k + 1) : Int)))))], []⟩, ⟨rfl, (Slots.cons rfl (by first | exact .refl _ | exact .nilOwn _ _ | exact .nilSl _ | exact .ownSl _ _ _  | exact SV.le.of_eq (by simp)) (Slots.cons rfl (by first | exact .refl _ | exact .nilOwn _ _ | exact .nilSl _ | exact .ownSl _ _ _  | exact SV.le.of_eq (by simp)) (Slots.cons rfl (by first | exact .refl _ | exact .nilOwn _ _ | exact .nilSl _ | exact .ownSl _ _ _  | exact SV.le.of_eq (by simp)) Slots.nil))), (by first | exact List.Sublist.refl _ | exact .cons_cons _ (.cons _ (.refl _)) | exact List.nil_sublist _ | exact .cons _ (.refl _) | exact .cons _ (.cons _ (.refl _)) | exact .cons _ (.cons _ (.cons _ (.refl _))) | exact .cons _ (.cons _ (.cons _ (.cons _ (.refl _)))) | exact .cons_cons _ (List.nil_sublist _))⟩, (by omega), ⟨k + 1, rfl, rfl, (by omega), (fidx_step hx hc1 hno)⟩⟩
 ·
  have hge : l.length ≤ k := by have := of_decide_eq_false hc0; simp at this; omega
  refine awp_exit ?_
  refine x_thenE ?_
  refine x_thenE ?_
  refine x_blockE ?_
  refine x_then ?_
  refine awp_seq ?_
  refine awp_region ?_
  refine r_assign rfl rfl ?_
  refine awl_nil ?_
  refine x_then ?_
  refine awp_ret ?_
  exact ⟨(.inl rfl), _, [], (.one (by first | exact .mk rfl rfl | exact .nil rfl)), ⟨rfl, by rw [fidx_end hge hno]; rfl⟩, (List.nil_sublist _), (by simp)⟩
theorem names_step {l : List File} {k : Nat} {x : File} {acc : List ByteArray} (h : l[k]? = some x) (ha : acc = namesF (l.take k)) : insS acc x.name = namesF (l.take (k + 1)) := by
  rw [ha]; unfold namesF; rw [fold_take h]
set_option maxHeartbeats 1000000 in
theorem rnames_ok (l : List File) (hl : l.length ≤ 1000) : AC Tryd.prog 73 [files l] [] (fun r n => n = [] ∧ r = strsA (namesF l)) := by
 refine ac_of_awp (rs := [2]) (nt := 64) Tryd.func73 rfl rfl rfl rfl (fun w0 C0 hq => ?_)
 refine awp_seq ?_
 refine awp_region ?_
 refine r_assign rfl rfl ?_
 refine awl_nil ?_
 refine x_then ?_
 refine awp_seq ?_
 refine awp_region ?_
 refine r_lit 6 (parts := []) rfl TF.sl54 TF.sz9 TF.zraw9 rfl rfl rfl rfl rfl rfl rfl ?_
 refine r_assign rfl rfl ?_
 refine awl_nil ?_
 refine x_then ?_
 refine awp_seq ?_
 refine awp_seq ?_
 refine awp_region ?_
 refine r_assign rfl rfl ?_
 refine awl_nil ?_
 refine x_then ?_
 refine awp_block ?_
 refine awp_loop (fun nn0 S => ∃ i : Nat, ∃ acc : List ByteArray, S = ⟨64, [(0, .a (files l)), (3, .a (strsA acc)), (4, .a (.v (.int .i64 ((i : Int)))))], []⟩ ∧ nn0 = l.length - i ∧ (i ≤ l.length) ∧ (acc = namesF (l.take i)) ∧ (acc.length ≤ i)) (l.length - (0)) ⟨64, [(0, .a (files l)), (3, .a (strsA ([]))), (4, .a (.v (.int .i64 (((0) : Int)))))], []⟩ ⟨rfl, (Slots.cons rfl (by first | exact .refl _ | exact .nilOwn _ _ | exact .nilSl _ | exact .ownSl _ _ _  | exact SV.le.of_eq (by simp)) (Slots.cons rfl (by first | exact .refl _ | exact .nilOwn _ _ | exact .nilSl _ | exact .ownSl _ _ _  | exact SV.le.of_eq (by simp)) (Slots.cons rfl (by first | exact .refl _ | exact .nilOwn _ _ | exact .nilSl _ | exact .ownSl _ _ _  | exact SV.le.of_eq (by simp)) Slots.nil))), (by first | exact List.Sublist.refl _ | exact .cons_cons _ (.cons _ (.refl _)) | exact List.nil_sublist _ | exact .cons _ (.refl _) | exact .cons _ (.cons _ (.refl _)) | exact .cons _ (.cons _ (.cons _ (.refl _))) | exact .cons _ (.cons _ (.cons _ (.cons _ (.refl _)))) | exact .cons_cons _ (List.nil_sublist _))⟩ ⟨0, [], rfl, rfl, Nat.zero_le _, rfl, (by simp)⟩ ?_
 rintro nn0 _ ⟨i, acc, rfl, rfl, hi, hacc, hal⟩
 refine awp_seq ?_
 refine awp_seq ?_
 refine awp_region ?_
 refine r_move rfl rfl ?_
 refine r_move rfl rfl ?_
 first | (refine r_lenS rfl rfl TF.sl65 rfl ?_) | (refine r_lenNil rfl TF.sl65 rfl ?_) | (refine r_lenV rfl TF.sl65 rfl ?_)
 refine r_cmp rfl rfl rfl rfl ?_
 refine awl_nil ?_
 refine x_then ?_
 refine awp_cond rfl (fun hc0 => ?_) (fun hc0 => ?_)
 ·
  have hltx : i < l.length := by have := of_decide_eq_true hc0; simpa using this
  obtain ⟨x, hx⟩ := get_lt hltx
  refine awp_skip ?_
  refine x_then ?_
  refine awp_seq ?_
  refine awp_block ?_
  refine awp_seq ?_
  refine awp_region ?_
  refine r_assign rfl rfl ?_
  refine awl_nil ?_
  refine x_then ?_
  refine awp_cut (fun S => ∃ j : Nat, S = ⟨64, [(0, .a (files l)), (3, .a (strsA acc)), (4, .a (.v (.int .i64 ((i : Int))))), (5, .a (.v (.int .i64 ((j : Int)))))], []⟩ ∧ (j ≤ acc.length) ∧ ((acc.take j).all (ltS · x.name) = true) ∧ (∀ y, acc[j]? = some y → ltS y x.name = false)) ?_ ?_
  ·
   refine awp_block ?_
   refine awp_loop (fun nn0 S => ∃ j : Nat, S = ⟨64, [(0, .a (files l)), (3, .a (strsA acc)), (4, .a (.v (.int .i64 ((i : Int))))), (5, .a (.v (.int .i64 ((j : Int)))))], []⟩ ∧ nn0 = acc.length - j ∧ (j ≤ acc.length) ∧ ((acc.take j).all (ltS · x.name) = true)) (acc.length - (0)) ⟨64, [(0, .a (files l)), (3, .a (strsA acc)), (4, .a (.v (.int .i64 ((i : Int))))), (5, .a (.v (.int .i64 (((0) : Int)))))], []⟩ ⟨rfl, (Slots.cons rfl (by first | exact .refl _ | exact .nilOwn _ _ | exact .nilSl _ | exact .ownSl _ _ _  | exact SV.le.of_eq (by simp)) (Slots.cons rfl (by first | exact .refl _ | exact .nilOwn _ _ | exact .nilSl _ | exact .ownSl _ _ _  | exact SV.le.of_eq (by simp)) (Slots.cons rfl (by first | exact .refl _ | exact .nilOwn _ _ | exact .nilSl _ | exact .ownSl _ _ _  | exact SV.le.of_eq (by simp)) (Slots.cons rfl (by first | exact .refl _ | exact .nilOwn _ _ | exact .nilSl _ | exact .ownSl _ _ _  | exact SV.le.of_eq (by simp)) Slots.nil)))), (by first | exact List.Sublist.refl _ | exact .cons_cons _ (.cons _ (.refl _)) | exact List.nil_sublist _ | exact .cons _ (.refl _) | exact .cons _ (.cons _ (.refl _)) | exact .cons _ (.cons _ (.cons _ (.refl _))) | exact .cons _ (.cons _ (.cons _ (.cons _ (.refl _)))) | exact .cons_cons _ (List.nil_sublist _))⟩ ⟨0, rfl, rfl, Nat.zero_le _, rfl⟩ ?_
   rintro nn0 _ ⟨j, rfl, rfl, hj, ha⟩
   refine awp_seq ?_
   refine awp_seq ?_
   rcases Bool.eq_false_or_eq_true (decide ((j : Int) < (acc.map (fun s : ByteArray => [AV.v (.string s)])).length)) with hg17 | hg17
   ·
    have hlty : j < acc.length := by have := of_decide_eq_true hg17; simpa using this
    obtain ⟨y, hy⟩ := get_lt hlty
    refine awp_drawS [13, 14, 15, 16, 17, 18, 19, 20, 21, 22, 23, 24, 25, 26] [_, _, _, _, _, _, _, _, _, _, _, _, _, _] [] [] TF.mixed rfl rfl rfl ⟨⟨⟨⟨⟨⟨⟨⟨⟨⟨⟨⟨⟨⟨trivial
     , ⟨_, rfl, fun sl hd hr ho => by
       refine r_move (hr 5 _ rfl rfl rfl) rfl ?_
       exact awl_nil ⟨rfl, post_put⟩⟩⟩
     , ⟨_, rfl, fun sl hd hr ho => by
       refine r_move (hr 3 _ rfl rfl rfl) rfl ?_
       exact awl_nil ⟨rfl, post_put⟩⟩⟩
     , ⟨_, rfl, fun sl hd hr ho => by
       first | (refine r_lenS (hd 1 _ rfl rfl rfl) rfl TF.sl54 rfl ?_) | (refine r_lenNil (hd 1 _ rfl rfl rfl) TF.sl54 rfl ?_) | (refine r_lenV (hd 1 _ rfl rfl rfl) TF.sl54 rfl ?_)
       exact awl_nil ⟨rfl, post_put⟩⟩⟩
     , ⟨_, rfl, fun sl hd hr ho => by
       refine r_cmp (hd 0 _ rfl rfl rfl) (hd 2 _ rfl rfl rfl) rfl rfl ?_
       exact awl_nil ⟨rfl, post_put⟩⟩⟩
     , ⟨_, rfl, fun sl hd hr ho => by
       refine r_move (hd 3 _ rfl rfl rfl) rfl ?_
       exact awl_nil ⟨rfl, post_put⟩⟩⟩
     , ⟨_, rfl, fun sl hd hr ho => by
       refine g_run rfl (hd 4 _ rfl rfl rfl) hg17 ?_
       refine r_move (hr 3 _ rfl rfl rfl) rfl ?_
       exact awl_nil ⟨rfl, post_put⟩⟩⟩
     , ⟨_, rfl, fun sl hd hr ho => by
       refine g_run rfl (hd 4 _ rfl rfl rfl) hg17 ?_
       refine r_move (hr 5 _ rfl rfl rfl) rfl ?_
       exact awl_nil ⟨rfl, post_put⟩⟩⟩
     , ⟨_, rfl, fun sl hd hr ho => by
       refine g_run rfl (hd 4 _ rfl rfl rfl) hg17 ?_
       refine r_index (hd 5 _ rfl rfl rfl) rfl (hd 6 _ rfl rfl rfl) TF.sl54 TF.sz9 (by omega) (get_map hy) rfl ?_
       exact awl_nil ⟨rfl, post_put⟩⟩⟩
     , ⟨_, rfl, fun sl hd hr ho => by
       refine g_run rfl (hd 4 _ rfl rfl rfl) hg17 ?_
       refine r_load1 (hd 7 _ rfl rfl rfl) TF.agg9 rfl ?_
       exact awl_nil ⟨rfl, post_put⟩⟩⟩
     , ⟨_, rfl, fun sl hd hr ho => by
       refine g_run rfl (hd 4 _ rfl rfl rfl) hg17 ?_
       refine r_move (hr 0 _ rfl rfl rfl) rfl ?_
       exact awl_nil ⟨rfl, post_put⟩⟩⟩
     , ⟨_, rfl, fun sl hd hr ho => by
       refine g_run rfl (hd 4 _ rfl rfl rfl) hg17 ?_
       refine r_move (hr 4 _ rfl rfl rfl) rfl ?_
       exact awl_nil ⟨rfl, post_put⟩⟩⟩
     , ⟨_, rfl, fun sl hd hr ho => by
       refine g_run rfl (hd 4 _ rfl rfl rfl) hg17 ?_
       refine r_index (hd 9 _ rfl rfl rfl) rfl (hd 10 _ rfl rfl rfl) TF.sl65 TF.sz71 (by omega) (get_map hx) rfl ?_
       exact awl_nil ⟨rfl, post_put⟩⟩⟩
     , ⟨_, rfl, fun sl hd hr ho => by
       refine g_run rfl (hd 4 _ rfl rfl rfl) hg17 ?_
       first | (refine r_fieldcp (hd 11 _ rfl rfl rfl) TF.f71_0 TF.sz9 rfl ?_) | (refine r_fieldb (hd 11 _ rfl rfl rfl) TF.f71_0 TF.sz9 rfl ?_)
       exact awl_nil ⟨rfl, post_put⟩⟩⟩
     , ⟨_, rfl, fun sl hd hr ho => by
       refine g_run rfl (hd 4 _ rfl rfl rfl) hg17 ?_
       refine r_load1 (hd 12 _ rfl rfl rfl) TF.agg9 rfl ?_
       exact awl_nil ⟨rfl, post_put⟩⟩⟩
     (by rfl) ?_
    refine g_run rfl rfl hg17 ?_
    refine r_str2 rfl rfl rfl rfl ?_
    refine r_pickT rfl hg17 rfl rfl ?_
    refine awl_nil ?_
    refine x_then ?_
    refine awp_cond rfl (fun hc1 => ?_) (fun hc1 => ?_)
    ·
     refine awp_skip ?_
     refine x_then ?_
     refine awp_block ?_
     refine awp_region ?_
     refine r_move rfl rfl ?_
     refine r_ari _ rfl rfl rfl (wrap_id (by first | omega | (simp; omega))) rfl ?_
     refine r_assign rfl rfl ?_
     refine awl_nil ?_
     refine x_block ?_
     refine x_then ?_
     refine ⟨acc.length - (j + 1), ⟨64, [(0, .a (files l)), (3, .a (strsA acc)), (4, .a (.v (.int .i64 ((i : Int))))), (5, .a (.v (.int .i64 (((j + 1) : Int)))))], []⟩, ⟨rfl, (Slots.cons rfl (by first | exact .refl _ | exact .nilOwn _ _ | exact .nilSl _ | exact .ownSl _ _ _  | exact SV.le.of_eq (by simp)) (Slots.cons rfl (by first | exact .refl _ | exact .nilOwn _ _ | exact .nilSl _ | exact .ownSl _ _ _  | exact SV.le.of_eq (by simp)) (Slots.cons rfl (by first | exact .refl _ | exact .nilOwn _ _ | exact .nilSl _ | exact .ownSl _ _ _  | exact SV.le.of_eq (by simp)) (Slots.cons rfl (by first | exact .refl _ | exact .nilOwn _ _ | exact .nilSl _ | exact .ownSl _ _ _  | exact SV.le.of_eq (by simp)) Slots.nil)))), (by first | exact List.Sublist.refl _ | exact .cons_cons _ (.cons _ (.refl _)) | exact List.nil_sublist _ | exact .cons _ (.refl _) | exact .cons _ (.cons _ (.refl _)) | exact .cons _ (.cons _ (.cons _ (.refl _))) | exact .cons _ (.cons _ (.cons _ (.cons _ (.refl _)))) | exact .cons_cons _ (List.nil_sublist _))⟩, (by omega), ⟨j + 1, rfl, rfl, (by have := (List.getElem?_eq_some_iff.1 hy).1; omega), (all_takeB hy ha hc1)⟩⟩
    ·
     refine awp_exit ?_
     refine x_thenE ?_
     refine x_thenE ?_
     refine x_blockE ?_
     refine x_then ?_
     refine ⟨⟨64, [(0, .a (files l)), (3, .a (strsA acc)), (4, .a (.v (.int .i64 ((i : Int))))), (5, .a (.v (.int .i64 (((j) : Int)))))], []⟩, ⟨rfl, (Slots.cons rfl (by first | exact .refl _ | exact .nilOwn _ _ | exact .nilSl _ | exact .ownSl _ _ _  | exact SV.le.of_eq (by simp)) (Slots.cons rfl (by first | exact .refl _ | exact .nilOwn _ _ | exact .nilSl _ | exact .ownSl _ _ _  | exact SV.le.of_eq (by simp)) (Slots.cons rfl (by first | exact .refl _ | exact .nilOwn _ _ | exact .nilSl _ | exact .ownSl _ _ _  | exact SV.le.of_eq (by simp)) (Slots.cons rfl (by first | exact .refl _ | exact .nilOwn _ _ | exact .nilSl _ | exact .ownSl _ _ _  | exact SV.le.of_eq (by simp)) Slots.nil)))), (by first | exact List.Sublist.refl _ | exact .cons_cons _ (.cons _ (.refl _)) | exact List.nil_sublist _ | exact .cons _ (.refl _) | exact .cons _ (.cons _ (.refl _)) | exact .cons _ (.cons _ (.cons _ (.refl _))) | exact .cons _ (.cons _ (.cons _ (.cons _ (.refl _)))) | exact .cons_cons _ (List.nil_sublist _))⟩, ⟨j, rfl, hj, ha, (fun z hz => by first | (rw [hy] at hz; cases hz; exact hc1) | (have := (List.getElem?_eq_some_iff.1 hz).1; omega))⟩⟩
   ·
    have hgej : acc.length ≤ j := by have := of_decide_eq_false hg17; simp at this; omega
    refine awp_drawS [13, 14, 15, 16, 17, 18, 19, 20, 21, 22, 23, 24, 25, 26] [_, _, _, _, _, _, _, _, _, _, _, _, _, _] [] [] TF.mixed rfl rfl rfl ⟨⟨⟨⟨⟨⟨⟨⟨⟨⟨⟨⟨⟨⟨trivial
     , ⟨_, rfl, fun sl hd hr ho => by
       refine r_move (hr 5 _ rfl rfl rfl) rfl ?_
       exact awl_nil ⟨rfl, post_put⟩⟩⟩
     , ⟨_, rfl, fun sl hd hr ho => by
       refine r_move (hr 3 _ rfl rfl rfl) rfl ?_
       exact awl_nil ⟨rfl, post_put⟩⟩⟩
     , ⟨_, rfl, fun sl hd hr ho => by
       first | (refine r_lenS (hd 1 _ rfl rfl rfl) rfl TF.sl54 rfl ?_) | (refine r_lenNil (hd 1 _ rfl rfl rfl) TF.sl54 rfl ?_) | (refine r_lenV (hd 1 _ rfl rfl rfl) TF.sl54 rfl ?_)
       exact awl_nil ⟨rfl, post_put⟩⟩⟩
     , ⟨_, rfl, fun sl hd hr ho => by
       refine r_cmp (hd 0 _ rfl rfl rfl) (hd 2 _ rfl rfl rfl) rfl rfl ?_
       exact awl_nil ⟨rfl, post_put⟩⟩⟩
     , ⟨_, rfl, fun sl hd hr ho => by
       refine r_move (hd 3 _ rfl rfl rfl) rfl ?_
       exact awl_nil ⟨rfl, post_put⟩⟩⟩
     , ⟨_, rfl, fun sl hd hr ho => by
       refine g_skip rfl (hd 4 _ rfl rfl rfl) hg17 rfl ?_
       exact awl_nil ⟨rfl, post_put⟩⟩⟩
     , ⟨_, rfl, fun sl hd hr ho => by
       refine g_skip rfl (hd 4 _ rfl rfl rfl) hg17 rfl ?_
       exact awl_nil ⟨rfl, post_put⟩⟩⟩
     , ⟨_, rfl, fun sl hd hr ho => by
       refine g_skip rfl (hd 4 _ rfl rfl rfl) hg17 rfl ?_
       exact awl_nil ⟨rfl, post_put⟩⟩⟩
     , ⟨_, rfl, fun sl hd hr ho => by
       refine g_skip rfl (hd 4 _ rfl rfl rfl) hg17 rfl ?_
       exact awl_nil ⟨rfl, post_put⟩⟩⟩
     , ⟨_, rfl, fun sl hd hr ho => by
       refine g_skip rfl (hd 4 _ rfl rfl rfl) hg17 rfl ?_
       exact awl_nil ⟨rfl, post_put⟩⟩⟩
     , ⟨_, rfl, fun sl hd hr ho => by
       refine g_skip rfl (hd 4 _ rfl rfl rfl) hg17 rfl ?_
       exact awl_nil ⟨rfl, post_put⟩⟩⟩
     , ⟨_, rfl, fun sl hd hr ho => by
       refine g_skip rfl (hd 4 _ rfl rfl rfl) hg17 rfl ?_
       exact awl_nil ⟨rfl, post_put⟩⟩⟩
     , ⟨_, rfl, fun sl hd hr ho => by
       refine g_skip rfl (hd 4 _ rfl rfl rfl) hg17 rfl ?_
       exact awl_nil ⟨rfl, post_put⟩⟩⟩
     , ⟨_, rfl, fun sl hd hr ho => by
       refine g_skip rfl (hd 4 _ rfl rfl rfl) hg17 rfl ?_
       exact awl_nil ⟨rfl, post_put⟩⟩⟩
     (by rfl) ?_
    refine g_skip rfl rfl hg17 rfl ?_
    refine r_pickF rfl hg17 rfl rfl ?_
    refine awl_nil ?_
    refine x_then ?_
    refine awp_condF rfl ?_
    refine awp_exit ?_
    refine x_thenE ?_
    refine x_thenE ?_
    refine x_blockE ?_
    refine x_then ?_
    refine ⟨⟨64, [(0, .a (files l)), (3, .a (strsA acc)), (4, .a (.v (.int .i64 ((i : Int))))), (5, .a (.v (.int .i64 (((j) : Int)))))], []⟩, ⟨rfl, (Slots.cons rfl (by first | exact .refl _ | exact .nilOwn _ _ | exact .nilSl _ | exact .ownSl _ _ _  | exact SV.le.of_eq (by simp)) (Slots.cons rfl (by first | exact .refl _ | exact .nilOwn _ _ | exact .nilSl _ | exact .ownSl _ _ _  | exact SV.le.of_eq (by simp)) (Slots.cons rfl (by first | exact .refl _ | exact .nilOwn _ _ | exact .nilSl _ | exact .ownSl _ _ _  | exact SV.le.of_eq (by simp)) (Slots.cons rfl (by first | exact .refl _ | exact .nilOwn _ _ | exact .nilSl _ | exact .ownSl _ _ _  | exact SV.le.of_eq (by simp)) Slots.nil)))), (by first | exact List.Sublist.refl _ | exact .cons_cons _ (.cons _ (.refl _)) | exact List.nil_sublist _ | exact .cons _ (.refl _) | exact .cons _ (.cons _ (.refl _)) | exact .cons _ (.cons _ (.cons _ (.refl _))) | exact .cons _ (.cons _ (.cons _ (.cons _ (.refl _)))) | exact .cons_cons _ (List.nil_sublist _))⟩, ⟨j, rfl, hj, ha, (fun z hz => by first | (rw [hy] at hz; cases hz; exact hc1) | (have := (List.getElem?_eq_some_iff.1 hz).1; omega))⟩⟩
  ·
   rintro _ ⟨j, rfl, hj, ha, hs⟩
   refine awp_seq ?_
   refine awp_seq ?_
   rcases Bool.eq_false_or_eq_true (decide ((j : Int) < (acc.map (fun s : ByteArray => [AV.v (.string s)])).length)) with hg35 | hg35
   ·
    have hlty : j < acc.length := by have := of_decide_eq_true hg35; simpa using this
    obtain ⟨y, hy⟩ := get_lt hlty
    refine awp_drawS [31, 32, 33, 34, 35, 36, 37, 38, 39, 40, 41, 42, 43, 44] [_, _, _, _, _, _, _, _, _, _, _, _, _, _] [] [] TF.mixed rfl rfl rfl ⟨⟨⟨⟨⟨⟨⟨⟨⟨⟨⟨⟨⟨⟨trivial
     , ⟨_, rfl, fun sl hd hr ho => by
       refine r_move (hr 5 _ rfl rfl rfl) rfl ?_
       exact awl_nil ⟨rfl, post_put⟩⟩⟩
     , ⟨_, rfl, fun sl hd hr ho => by
       refine r_move (hr 3 _ rfl rfl rfl) rfl ?_
       exact awl_nil ⟨rfl, post_put⟩⟩⟩
     , ⟨_, rfl, fun sl hd hr ho => by
       first | (refine r_lenS (hd 1 _ rfl rfl rfl) rfl TF.sl54 rfl ?_) | (refine r_lenNil (hd 1 _ rfl rfl rfl) TF.sl54 rfl ?_) | (refine r_lenV (hd 1 _ rfl rfl rfl) TF.sl54 rfl ?_)
       exact awl_nil ⟨rfl, post_put⟩⟩⟩
     , ⟨_, rfl, fun sl hd hr ho => by
       refine r_cmp (hd 0 _ rfl rfl rfl) (hd 2 _ rfl rfl rfl) rfl rfl ?_
       exact awl_nil ⟨rfl, post_put⟩⟩⟩
     , ⟨_, rfl, fun sl hd hr ho => by
       refine r_move (hd 3 _ rfl rfl rfl) rfl ?_
       exact awl_nil ⟨rfl, post_put⟩⟩⟩
     , ⟨_, rfl, fun sl hd hr ho => by
       refine g_run rfl (hd 4 _ rfl rfl rfl) hg35 ?_
       refine r_move (hr 3 _ rfl rfl rfl) rfl ?_
       exact awl_nil ⟨rfl, post_put⟩⟩⟩
     , ⟨_, rfl, fun sl hd hr ho => by
       refine g_run rfl (hd 4 _ rfl rfl rfl) hg35 ?_
       refine r_move (hr 5 _ rfl rfl rfl) rfl ?_
       exact awl_nil ⟨rfl, post_put⟩⟩⟩
     , ⟨_, rfl, fun sl hd hr ho => by
       refine g_run rfl (hd 4 _ rfl rfl rfl) hg35 ?_
       refine r_index (hd 5 _ rfl rfl rfl) rfl (hd 6 _ rfl rfl rfl) TF.sl54 TF.sz9 (by omega) (get_map hy) rfl ?_
       exact awl_nil ⟨rfl, post_put⟩⟩⟩
     , ⟨_, rfl, fun sl hd hr ho => by
       refine g_run rfl (hd 4 _ rfl rfl rfl) hg35 ?_
       refine r_load1 (hd 7 _ rfl rfl rfl) TF.agg9 rfl ?_
       exact awl_nil ⟨rfl, post_put⟩⟩⟩
     , ⟨_, rfl, fun sl hd hr ho => by
       refine g_run rfl (hd 4 _ rfl rfl rfl) hg35 ?_
       refine r_move (hr 0 _ rfl rfl rfl) rfl ?_
       exact awl_nil ⟨rfl, post_put⟩⟩⟩
     , ⟨_, rfl, fun sl hd hr ho => by
       refine g_run rfl (hd 4 _ rfl rfl rfl) hg35 ?_
       refine r_move (hr 4 _ rfl rfl rfl) rfl ?_
       exact awl_nil ⟨rfl, post_put⟩⟩⟩
     , ⟨_, rfl, fun sl hd hr ho => by
       refine g_run rfl (hd 4 _ rfl rfl rfl) hg35 ?_
       refine r_index (hd 9 _ rfl rfl rfl) rfl (hd 10 _ rfl rfl rfl) TF.sl65 TF.sz71 (by omega) (get_map hx) rfl ?_
       exact awl_nil ⟨rfl, post_put⟩⟩⟩
     , ⟨_, rfl, fun sl hd hr ho => by
       refine g_run rfl (hd 4 _ rfl rfl rfl) hg35 ?_
       first | (refine r_fieldcp (hd 11 _ rfl rfl rfl) TF.f71_0 TF.sz9 rfl ?_) | (refine r_fieldb (hd 11 _ rfl rfl rfl) TF.f71_0 TF.sz9 rfl ?_)
       exact awl_nil ⟨rfl, post_put⟩⟩⟩
     , ⟨_, rfl, fun sl hd hr ho => by
       refine g_run rfl (hd 4 _ rfl rfl rfl) hg35 ?_
       refine r_load1 (hd 12 _ rfl rfl rfl) TF.agg9 rfl ?_
       exact awl_nil ⟨rfl, post_put⟩⟩⟩
     (by rfl) ?_
    refine g_run rfl rfl hg35 ?_
    refine r_str2 rfl rfl rfl rfl ?_
    refine r_pickT rfl hg35 rfl rfl ?_
    refine awl_nil ?_
    refine x_then ?_
    refine awp_cond rfl (fun hc2 => ?_) (fun hc2 => ?_)
    ·
     have hins : insS acc x.name = acc := by rw [insS_at ha hj hs, hy]; simp only [show y = x.name from by simpa using hc2, if_true]
     refine awp_exit ?_
     refine x_thenE ?_
     refine x_blockE ?_
     refine x_then ?_
     refine awp_region ?_
     refine r_move rfl rfl ?_
     refine r_ari _ rfl rfl rfl (wrap_id (by first | omega | (simp; omega))) rfl ?_
     refine r_assign rfl rfl ?_
     refine awl_nil ?_
     refine x_then ?_
     refine ⟨l.length - (i + 1), ⟨64, [(0, .a (files l)), (3, .a (strsA (insS acc x.name))), (4, .a (.v (.int .i64 (((i + 1) : Int)))))], []⟩, ⟨rfl, (Slots.cons rfl (by first | exact .refl _ | exact .nilOwn _ _ | exact .nilSl _ | exact .ownSl _ _ _  | exact SV.le.ownEq (by first | rfl | (rw [hins]; done) | (rw [hins]; rfl) | (rw [hins]; simp [chunks, List.map_take, List.map_drop]; rfl)) | exact SV.le.of_eq (by first | rfl | (rw [hins]; done) | (rw [hins]; rfl) | (rw [hins]; simp [chunks, List.map_take, List.map_drop]; rfl))) (Slots.cons rfl (by first | exact .refl _ | exact .nilOwn _ _ | exact .nilSl _ | exact .ownSl _ _ _  | exact SV.le.ownEq (by first | rfl | (rw [hins]; done) | (rw [hins]; rfl) | (rw [hins]; simp [chunks, List.map_take, List.map_drop]; rfl)) | exact SV.le.of_eq (by first | rfl | (rw [hins]; done) | (rw [hins]; rfl) | (rw [hins]; simp [chunks, List.map_take, List.map_drop]; rfl))) (Slots.cons rfl (by first | exact .refl _ | exact .nilOwn _ _ | exact .nilSl _ | exact .ownSl _ _ _  | exact SV.le.ownEq (by first | rfl | (rw [hins]; done) | (rw [hins]; rfl) | (rw [hins]; simp [chunks, List.map_take, List.map_drop]; rfl)) | exact SV.le.of_eq (by first | rfl | (rw [hins]; done) | (rw [hins]; rfl) | (rw [hins]; simp [chunks, List.map_take, List.map_drop]; rfl))) Slots.nil))), (by first | exact List.Sublist.refl _ | exact .cons_cons _ (.cons _ (.refl _)) | exact List.nil_sublist _ | exact .cons _ (.refl _) | exact .cons _ (.cons _ (.refl _)) | exact .cons _ (.cons _ (.cons _ (.refl _))) | exact .cons _ (.cons _ (.cons _ (.cons _ (.refl _)))) | exact .cons_cons _ (List.nil_sublist _))⟩, (by omega), ⟨i + 1, insS acc x.name, rfl, rfl, (by omega), (names_step hx hacc), (by have := insS_len (n := x.name) (l := acc); omega)⟩⟩
    ·
     have hins : insS acc x.name = acc.take j ++ x.name :: acc.drop j := by rw [insS_at ha hj hs, hy]; simp only [show ¬ y = x.name from by simpa using hc2, if_false]
     refine awp_skip ?_
     refine x_then ?_
     refine awp_drawS [47, 48, 49, 50, 51, 52, 53, 54, 55, 56, 57, 58, 59, 60, 61] [_, _, _, _, _, _, _, _, _, _, _, _, _, _, _] [[], [], [], [], [47], [], [], [], [], [], [], [47, 51]] [(0, 47), (4, 47), (10, 57), (11, 47)] TF.mixed rfl rfl rfl ⟨⟨⟨⟨⟨⟨⟨⟨⟨⟨⟨⟨⟨⟨⟨trivial
      , ⟨_, rfl, fun sl hd hr ho => by
        refine r_lit 47 (parts := []) rfl TF.sl54 TF.sz9 TF.zraw9 rfl rfl parts_nil rfl rfl rfl rfl ?_
        exact awl_nil ⟨rfl, (post_dem (ho 47 (List.mem_of_elem_eq_true rfl)))⟩⟩⟩
      , ⟨_, rfl, fun sl hd hr ho => by
        refine r_move (hr 3 _ rfl rfl rfl) rfl ?_
        exact awl_nil ⟨rfl, post_put⟩⟩⟩
      , ⟨_, rfl, fun sl hd hr ho => by
        refine r_move (hr 5 _ rfl rfl rfl) rfl ?_
        exact awl_nil ⟨rfl, post_put⟩⟩⟩
      , ⟨_, rfl, fun sl hd hr ho => by
        refine r_sliceH (hd 1 _ rfl rfl rfl) rfl (hd 2 _ rfl rfl rfl) TF.sl54 TF.sz9 (by omega) (by simp; omega) rfl ?_
        exact awl_nil ⟨rfl, post_put⟩⟩⟩
      , ⟨_, rfl, fun sl hd hr ho => by
        refine r_append 47 (hd 0 _ rfl rfl rfl) (by first | exact .own _ | exact .nil) (hd 3 _ rfl rfl rfl) (by first | exact .sl _ | exact .own _ _ | exact .nil) TF.sl54 TF.sz9 (by decide) TF.by9 TF.zlen9 (by simp [chunks] <;> omega) (by simp [chunks] <;> omega) rfl ?_
        exact awl_nil ⟨rfl, (post_dem (ho 47 (List.mem_of_elem_eq_true rfl)))⟩⟩⟩
      , ⟨_, rfl, fun sl hd hr ho => by
        refine r_move (hr 0 _ rfl rfl rfl) rfl ?_
        exact awl_nil ⟨rfl, post_put⟩⟩⟩
      , ⟨_, rfl, fun sl hd hr ho => by
        refine r_move (hr 4 _ rfl rfl rfl) rfl ?_
        exact awl_nil ⟨rfl, post_put⟩⟩⟩
      , ⟨_, rfl, fun sl hd hr ho => by
        refine r_index (hd 5 _ rfl rfl rfl) rfl (hd 6 _ rfl rfl rfl) TF.sl65 TF.sz71 (by omega) (get_map hx) rfl ?_
        exact awl_nil ⟨rfl, post_put⟩⟩⟩
      , ⟨_, rfl, fun sl hd hr ho => by
        first | (refine r_fieldcp (hd 7 _ rfl rfl rfl) TF.f71_0 TF.sz9 rfl ?_) | (refine r_fieldb (hd 7 _ rfl rfl rfl) TF.f71_0 TF.sz9 rfl ?_)
        exact awl_nil ⟨rfl, post_put⟩⟩⟩
      , ⟨_, rfl, fun sl hd hr ho => by
        refine r_load1 (hd 8 _ rfl rfl rfl) TF.agg9 rfl ?_
        exact awl_nil ⟨rfl, post_put⟩⟩⟩
      , ⟨_, rfl, fun sl hd hr ho => by
        refine r_lit 57 (parts := [(0, .tmp 56)]) rfl TF.sl54 TF.sz9 TF.zraw9 rfl rfl (parts_cons (hd 9 _ rfl rfl rfl) parts_nil) rfl rfl rfl rfl ?_
        exact awl_nil ⟨rfl, (post_dem (ho 57 (List.mem_of_elem_eq_true rfl)))⟩⟩⟩
      , ⟨_, rfl, fun sl hd hr ho => by
        refine r_append 47 (hd 4 _ rfl rfl rfl) (by first | exact .own _ | exact .nil) (hd 10 _ rfl rfl rfl) (by first | exact .sl _ | exact .own _ _ | exact .nil) TF.sl54 TF.sz9 (by decide) TF.by9 TF.zlen9 (by simp [chunks] <;> omega) (by simp [chunks] <;> omega) rfl ?_
        exact awl_nil ⟨rfl, (post_dem (ho 47 (List.mem_of_elem_eq_true rfl)))⟩⟩⟩
      , ⟨_, rfl, fun sl hd hr ho => by
        refine r_move (hr 3 _ rfl rfl rfl) rfl ?_
        exact awl_nil ⟨rfl, post_put⟩⟩⟩
      , ⟨_, rfl, fun sl hd hr ho => by
        refine r_move (hr 5 _ rfl rfl rfl) rfl ?_
        exact awl_nil ⟨rfl, post_put⟩⟩⟩
      , ⟨_, rfl, fun sl hd hr ho => by
        refine r_sliceL (hd 12 _ rfl rfl rfl) rfl (hd 13 _ rfl rfl rfl) TF.sl54 TF.sz9 (by omega) (by simp; omega) rfl ?_
        exact awl_nil ⟨rfl, post_put⟩⟩⟩
      (by rfl) ?_
     refine r_append 47 rfl (by first | exact .own _ | exact .nil) rfl (by first | exact .sl _ | exact .own _ _ | exact .nil) TF.sl54 TF.sz9 (by decide) TF.by9 TF.zlen9 (by simp [chunks] <;> omega) (by simp [chunks] <;> omega) rfl ?_
     refine r_assign rfl rfl ?_
     refine awl_nil ?_
     refine x_block ?_
     refine x_then ?_
     refine awp_region ?_
     refine r_move rfl rfl ?_
     refine r_ari _ rfl rfl rfl (wrap_id (by first | omega | (simp; omega))) rfl ?_
     refine r_assign rfl rfl ?_
     refine awl_nil ?_
     refine x_then ?_
     refine ⟨l.length - (i + 1), ⟨64, [(0, .a (files l)), (3, .a (strsA (insS acc x.name))), (4, .a (.v (.int .i64 (((i + 1) : Int)))))], []⟩, ⟨rfl, (Slots.cons rfl (by first | exact .refl _ | exact .nilOwn _ _ | exact .nilSl _ | exact .ownSl _ _ _  | exact SV.le.ownEq (by first | rfl | (rw [hins]; done) | (rw [hins]; rfl) | (rw [hins]; simp [chunks, List.map_take, List.map_drop]; rfl)) | exact SV.le.of_eq (by first | rfl | (rw [hins]; done) | (rw [hins]; rfl) | (rw [hins]; simp [chunks, List.map_take, List.map_drop]; rfl))) (Slots.cons rfl (by first | exact .refl _ | exact .nilOwn _ _ | exact .nilSl _ | exact .ownSl _ _ _  | exact SV.le.ownEq (by first | rfl | (rw [hins]; done) | (rw [hins]; rfl) | (rw [hins]; simp [chunks, List.map_take, List.map_drop]; rfl)) | exact SV.le.of_eq (by first | rfl | (rw [hins]; done) | (rw [hins]; rfl) | (rw [hins]; simp [chunks, List.map_take, List.map_drop]; rfl))) (Slots.cons rfl (by first | exact .refl _ | exact .nilOwn _ _ | exact .nilSl _ | exact .ownSl _ _ _  | exact SV.le.ownEq (by first | rfl | (rw [hins]; done) | (rw [hins]; rfl) | (rw [hins]; simp [chunks, List.map_take, List.map_drop]; rfl)) | exact SV.le.of_eq (by first | rfl | (rw [hins]; done) | (rw [hins]; rfl) | (rw [hins]; simp [chunks, List.map_take, List.map_drop]; rfl))) Slots.nil))), (by first | exact List.Sublist.refl _ | exact .cons_cons _ (.cons _ (.refl _)) | exact List.nil_sublist _ | exact .cons _ (.refl _) | exact .cons _ (.cons _ (.refl _)) | exact .cons _ (.cons _ (.cons _ (.refl _))) | exact .cons _ (.cons _ (.cons _ (.cons _ (.refl _)))) | exact .cons_cons _ (List.nil_sublist _))⟩, (by omega), ⟨i + 1, insS acc x.name, rfl, rfl, (by omega), (names_step hx hacc), (by have := insS_len (n := x.name) (l := acc); omega)⟩⟩
   ·
    have hgej : acc.length ≤ j := by have := of_decide_eq_false hg35; simp at this; omega
    have hins : insS acc x.name = acc.take j ++ x.name :: acc.drop j := by rw [insS_at ha hj hs, List.getElem?_eq_none (by omega), List.take_of_length_le (by omega), List.drop_eq_nil_of_le (by omega)]
    refine awp_drawS [31, 32, 33, 34, 35, 36, 37, 38, 39, 40, 41, 42, 43, 44] [_, _, _, _, _, _, _, _, _, _, _, _, _, _] [] [] TF.mixed rfl rfl rfl ⟨⟨⟨⟨⟨⟨⟨⟨⟨⟨⟨⟨⟨⟨trivial
     , ⟨_, rfl, fun sl hd hr ho => by
       refine r_move (hr 5 _ rfl rfl rfl) rfl ?_
       exact awl_nil ⟨rfl, post_put⟩⟩⟩
     , ⟨_, rfl, fun sl hd hr ho => by
       refine r_move (hr 3 _ rfl rfl rfl) rfl ?_
       exact awl_nil ⟨rfl, post_put⟩⟩⟩
     , ⟨_, rfl, fun sl hd hr ho => by
       first | (refine r_lenS (hd 1 _ rfl rfl rfl) rfl TF.sl54 rfl ?_) | (refine r_lenNil (hd 1 _ rfl rfl rfl) TF.sl54 rfl ?_) | (refine r_lenV (hd 1 _ rfl rfl rfl) TF.sl54 rfl ?_)
       exact awl_nil ⟨rfl, post_put⟩⟩⟩
     , ⟨_, rfl, fun sl hd hr ho => by
       refine r_cmp (hd 0 _ rfl rfl rfl) (hd 2 _ rfl rfl rfl) rfl rfl ?_
       exact awl_nil ⟨rfl, post_put⟩⟩⟩
     , ⟨_, rfl, fun sl hd hr ho => by
       refine r_move (hd 3 _ rfl rfl rfl) rfl ?_
       exact awl_nil ⟨rfl, post_put⟩⟩⟩
     , ⟨_, rfl, fun sl hd hr ho => by
       refine g_skip rfl (hd 4 _ rfl rfl rfl) hg35 rfl ?_
       exact awl_nil ⟨rfl, post_put⟩⟩⟩
     , ⟨_, rfl, fun sl hd hr ho => by
       refine g_skip rfl (hd 4 _ rfl rfl rfl) hg35 rfl ?_
       exact awl_nil ⟨rfl, post_put⟩⟩⟩
     , ⟨_, rfl, fun sl hd hr ho => by
       refine g_skip rfl (hd 4 _ rfl rfl rfl) hg35 rfl ?_
       exact awl_nil ⟨rfl, post_put⟩⟩⟩
     , ⟨_, rfl, fun sl hd hr ho => by
       refine g_skip rfl (hd 4 _ rfl rfl rfl) hg35 rfl ?_
       exact awl_nil ⟨rfl, post_put⟩⟩⟩
     , ⟨_, rfl, fun sl hd hr ho => by
       refine g_skip rfl (hd 4 _ rfl rfl rfl) hg35 rfl ?_
       exact awl_nil ⟨rfl, post_put⟩⟩⟩
     , ⟨_, rfl, fun sl hd hr ho => by
       refine g_skip rfl (hd 4 _ rfl rfl rfl) hg35 rfl ?_
       exact awl_nil ⟨rfl, post_put⟩⟩⟩
     , ⟨_, rfl, fun sl hd hr ho => by
       refine g_skip rfl (hd 4 _ rfl rfl rfl) hg35 rfl ?_
       exact awl_nil ⟨rfl, post_put⟩⟩⟩
     , ⟨_, rfl, fun sl hd hr ho => by
       refine g_skip rfl (hd 4 _ rfl rfl rfl) hg35 rfl ?_
       exact awl_nil ⟨rfl, post_put⟩⟩⟩
     , ⟨_, rfl, fun sl hd hr ho => by
       refine g_skip rfl (hd 4 _ rfl rfl rfl) hg35 rfl ?_
       exact awl_nil ⟨rfl, post_put⟩⟩⟩
     (by rfl) ?_
    refine g_skip rfl rfl hg35 rfl ?_
    refine r_pickF rfl hg35 rfl rfl ?_
    refine awl_nil ?_
    refine x_then ?_
    refine awp_condF rfl ?_
    refine awp_skip ?_
    refine x_then ?_
    refine awp_drawS [47, 48, 49, 50, 51, 52, 53, 54, 55, 56, 57, 58, 59, 60, 61] [_, _, _, _, _, _, _, _, _, _, _, _, _, _, _] [[], [], [], [], [47], [], [], [], [], [], [], [47, 51]] [(0, 47), (4, 47), (10, 57), (11, 47)] TF.mixed rfl rfl rfl ⟨⟨⟨⟨⟨⟨⟨⟨⟨⟨⟨⟨⟨⟨⟨trivial
     , ⟨_, rfl, fun sl hd hr ho => by
       refine r_lit 47 (parts := []) rfl TF.sl54 TF.sz9 TF.zraw9 rfl rfl parts_nil rfl rfl rfl rfl ?_
       exact awl_nil ⟨rfl, (post_dem (ho 47 (List.mem_of_elem_eq_true rfl)))⟩⟩⟩
     , ⟨_, rfl, fun sl hd hr ho => by
       refine r_move (hr 3 _ rfl rfl rfl) rfl ?_
       exact awl_nil ⟨rfl, post_put⟩⟩⟩
     , ⟨_, rfl, fun sl hd hr ho => by
       refine r_move (hr 5 _ rfl rfl rfl) rfl ?_
       exact awl_nil ⟨rfl, post_put⟩⟩⟩
     , ⟨_, rfl, fun sl hd hr ho => by
       refine r_sliceH (hd 1 _ rfl rfl rfl) rfl (hd 2 _ rfl rfl rfl) TF.sl54 TF.sz9 (by omega) (by simp; omega) rfl ?_
       exact awl_nil ⟨rfl, post_put⟩⟩⟩
     , ⟨_, rfl, fun sl hd hr ho => by
       refine r_append 47 (hd 0 _ rfl rfl rfl) (by first | exact .own _ | exact .nil) (hd 3 _ rfl rfl rfl) (by first | exact .sl _ | exact .own _ _ | exact .nil) TF.sl54 TF.sz9 (by decide) TF.by9 TF.zlen9 (by simp [chunks] <;> omega) (by simp [chunks] <;> omega) rfl ?_
       exact awl_nil ⟨rfl, (post_dem (ho 47 (List.mem_of_elem_eq_true rfl)))⟩⟩⟩
     , ⟨_, rfl, fun sl hd hr ho => by
       refine r_move (hr 0 _ rfl rfl rfl) rfl ?_
       exact awl_nil ⟨rfl, post_put⟩⟩⟩
     , ⟨_, rfl, fun sl hd hr ho => by
       refine r_move (hr 4 _ rfl rfl rfl) rfl ?_
       exact awl_nil ⟨rfl, post_put⟩⟩⟩
     , ⟨_, rfl, fun sl hd hr ho => by
       refine r_index (hd 5 _ rfl rfl rfl) rfl (hd 6 _ rfl rfl rfl) TF.sl65 TF.sz71 (by omega) (get_map hx) rfl ?_
       exact awl_nil ⟨rfl, post_put⟩⟩⟩
     , ⟨_, rfl, fun sl hd hr ho => by
       first | (refine r_fieldcp (hd 7 _ rfl rfl rfl) TF.f71_0 TF.sz9 rfl ?_) | (refine r_fieldb (hd 7 _ rfl rfl rfl) TF.f71_0 TF.sz9 rfl ?_)
       exact awl_nil ⟨rfl, post_put⟩⟩⟩
     , ⟨_, rfl, fun sl hd hr ho => by
       refine r_load1 (hd 8 _ rfl rfl rfl) TF.agg9 rfl ?_
       exact awl_nil ⟨rfl, post_put⟩⟩⟩
     , ⟨_, rfl, fun sl hd hr ho => by
       refine r_lit 57 (parts := [(0, .tmp 56)]) rfl TF.sl54 TF.sz9 TF.zraw9 rfl rfl (parts_cons (hd 9 _ rfl rfl rfl) parts_nil) rfl rfl rfl rfl ?_
       exact awl_nil ⟨rfl, (post_dem (ho 57 (List.mem_of_elem_eq_true rfl)))⟩⟩⟩
     , ⟨_, rfl, fun sl hd hr ho => by
       refine r_append 47 (hd 4 _ rfl rfl rfl) (by first | exact .own _ | exact .nil) (hd 10 _ rfl rfl rfl) (by first | exact .sl _ | exact .own _ _ | exact .nil) TF.sl54 TF.sz9 (by decide) TF.by9 TF.zlen9 (by simp [chunks] <;> omega) (by simp [chunks] <;> omega) rfl ?_
       exact awl_nil ⟨rfl, (post_dem (ho 47 (List.mem_of_elem_eq_true rfl)))⟩⟩⟩
     , ⟨_, rfl, fun sl hd hr ho => by
       refine r_move (hr 3 _ rfl rfl rfl) rfl ?_
       exact awl_nil ⟨rfl, post_put⟩⟩⟩
     , ⟨_, rfl, fun sl hd hr ho => by
       refine r_move (hr 5 _ rfl rfl rfl) rfl ?_
       exact awl_nil ⟨rfl, post_put⟩⟩⟩
     , ⟨_, rfl, fun sl hd hr ho => by
       refine r_sliceL (hd 12 _ rfl rfl rfl) rfl (hd 13 _ rfl rfl rfl) TF.sl54 TF.sz9 (by omega) (by simp; omega) rfl ?_
       exact awl_nil ⟨rfl, post_put⟩⟩⟩
     (by rfl) ?_
    refine r_append 47 rfl (by first | exact .own _ | exact .nil) rfl (by first | exact .sl _ | exact .own _ _ | exact .nil) TF.sl54 TF.sz9 (by decide) TF.by9 TF.zlen9 (by simp [chunks] <;> omega) (by simp [chunks] <;> omega) rfl ?_
    refine r_assign rfl rfl ?_
    refine awl_nil ?_
    refine x_block ?_
    refine x_then ?_
    refine awp_region ?_
    refine r_move rfl rfl ?_
    refine r_ari _ rfl rfl rfl (wrap_id (by first | omega | (simp; omega))) rfl ?_
    refine r_assign rfl rfl ?_
    refine awl_nil ?_
    refine x_then ?_
    refine ⟨l.length - (i + 1), ⟨64, [(0, .a (files l)), (3, .a (strsA (insS acc x.name))), (4, .a (.v (.int .i64 (((i + 1) : Int)))))], []⟩, ⟨rfl, (Slots.cons rfl (by first | exact .refl _ | exact .nilOwn _ _ | exact .nilSl _ | exact .ownSl _ _ _  | exact SV.le.ownEq (by first | rfl | (rw [hins]; done) | (rw [hins]; rfl) | (rw [hins]; simp [chunks, List.map_take, List.map_drop]; rfl)) | exact SV.le.of_eq (by first | rfl | (rw [hins]; done) | (rw [hins]; rfl) | (rw [hins]; simp [chunks, List.map_take, List.map_drop]; rfl))) (Slots.cons rfl (by first | exact .refl _ | exact .nilOwn _ _ | exact .nilSl _ | exact .ownSl _ _ _  | exact SV.le.ownEq (by first | rfl | (rw [hins]; done) | (rw [hins]; rfl) | (rw [hins]; simp [chunks, List.map_take, List.map_drop]; rfl)) | exact SV.le.of_eq (by first | rfl | (rw [hins]; done) | (rw [hins]; rfl) | (rw [hins]; simp [chunks, List.map_take, List.map_drop]; rfl))) (Slots.cons rfl (by first | exact .refl _ | exact .nilOwn _ _ | exact .nilSl _ | exact .ownSl _ _ _  | exact SV.le.ownEq (by first | rfl | (rw [hins]; done) | (rw [hins]; rfl) | (rw [hins]; simp [chunks, List.map_take, List.map_drop]; rfl)) | exact SV.le.of_eq (by first | rfl | (rw [hins]; done) | (rw [hins]; rfl) | (rw [hins]; simp [chunks, List.map_take, List.map_drop]; rfl))) Slots.nil))), (by first | exact List.Sublist.refl _ | exact .cons_cons _ (.cons _ (.refl _)) | exact List.nil_sublist _ | exact .cons _ (.refl _) | exact .cons _ (.cons _ (.refl _)) | exact .cons _ (.cons _ (.cons _ (.refl _))) | exact .cons _ (.cons _ (.cons _ (.cons _ (.refl _)))) | exact .cons_cons _ (List.nil_sublist _))⟩, (by omega), ⟨i + 1, insS acc x.name, rfl, rfl, (by omega), (names_step hx hacc), (by have := insS_len (n := x.name) (l := acc); omega)⟩⟩
 ·
  have hgei : l.length ≤ i := by have := of_decide_eq_false hc0; simp at this; omega
  rw [List.take_of_length_le hgei] at hacc
  refine awp_exit ?_
  refine x_thenE ?_
  refine x_thenE ?_
  refine x_blockE ?_
  refine x_then ?_
  refine awp_seq ?_
  refine awp_region ?_
  refine r_move rfl rfl ?_
  refine r_assign rfl rfl ?_
  refine awl_nil ?_
  refine x_then ?_
  refine awp_ret ?_
  exact ⟨(.inl rfl), _, [], (.one (by first | exact .mk rfl rfl | exact .nil rfl)), ⟨rfl, by rw [hacc]; rfl⟩, (List.nil_sublist _), (by simp)⟩
theorem rclean_ok (l : List File) (hl : l.length ≤ 1000) : AC Tryd.prog 30 [files l] [] (fun r n => n = [] ∧ r = files (cleanS l)) := by
 refine ac_of_awp (rs := [2]) (nt := 28) Tryd.func30 rfl rfl rfl rfl (fun w0 C0 hq => ?_)
 refine awp_seq ?_
 refine awp_region ?_
 refine r_assign rfl rfl ?_
 refine awl_nil ?_
 refine x_then ?_
 refine awp_seq ?_
 refine awp_region ?_
 refine r_lit 6 (parts := []) rfl TF.sl65 TF.sz71 TF.zraw71 rfl rfl rfl rfl rfl rfl rfl ?_
 refine r_assign rfl rfl ?_
 refine awl_nil ?_
 refine x_then ?_
 refine awp_seq ?_
 refine awp_region ?_
 refine r_move rfl rfl ?_
 refine r_call0 hq rfl rfl (.cons (.ev rfl rfl) .nil) (rnames_ok l hl) rfl TF.en73 rfl (fun r hr => ?_)
 obtain rfl := hr
 obtain ⟨ns, hns⟩ : ∃ ns, ns = namesF l := ⟨_, rfl⟩
 rw [← hns]
 have hnl : ns.length ≤ 1000 := by rw [hns]; have := names_len l; omega
 refine r_assign rfl rfl ?_
 refine awl_nil ?_
 refine x_then ?_
 refine awp_seq ?_
 refine awp_seq ?_
 refine awp_region ?_
 refine r_assign rfl rfl ?_
 refine awl_nil ?_
 refine x_then ?_
 refine awp_block ?_
 refine awp_loop (fun nn0 S => ∃ k : Nat, S = ⟨28, [(0, .a (files l)), (3, .own 6 2 (((ns.take k).map (fun s : ByteArray => (⟨s, (lookF l s).getD []⟩ : File))).map File.cs)), (4, .a (strsA ns)), (5, .a (.v (.int .i64 ((k : Int)))))], []⟩ ∧ nn0 = ns.length - k ∧ (k ≤ ns.length)) (ns.length - (0)) ⟨28, [(0, .a (files l)), (3, .own 6 2 (((ns.take (0)).map (fun s : ByteArray => (⟨s, (lookF l s).getD []⟩ : File))).map File.cs)), (4, .a (strsA ns)), (5, .a (.v (.int .i64 (((0) : Int)))))], []⟩ ⟨rfl, (Slots.cons rfl (by first | exact .refl _ | exact .nilOwn _ _ | exact .nilSl _ | exact .ownSl _ _ _  | exact SV.le.of_eq (by simp)) (Slots.cons rfl (by first | exact .refl _ | exact .nilOwn _ _ | exact .nilSl _ | exact .ownSl _ _ _  | exact SV.le.of_eq (by simp)) (Slots.cons rfl (by first | exact .refl _ | exact .nilOwn _ _ | exact .nilSl _ | exact .ownSl _ _ _  | exact SV.le.of_eq (by simp)) (Slots.cons rfl (by first | exact .refl _ | exact .nilOwn _ _ | exact .nilSl _ | exact .ownSl _ _ _  | exact SV.le.of_eq (by simp)) Slots.nil)))), (by first | exact List.Sublist.refl _ | exact .cons_cons _ (.cons _ (.refl _)) | exact List.nil_sublist _ | exact .cons _ (.refl _) | exact .cons _ (.cons _ (.refl _)) | exact .cons _ (.cons _ (.cons _ (.refl _))) | exact .cons _ (.cons _ (.cons _ (.cons _ (.refl _)))) | exact .cons_cons _ (List.nil_sublist _))⟩ ⟨0, rfl, rfl, Nat.zero_le _⟩ ?_
 rintro nn0 _ ⟨k, rfl, rfl, hk⟩
 refine awp_seq ?_
 refine awp_seq ?_
 refine awp_region ?_
 refine r_move rfl rfl ?_
 refine r_move rfl rfl ?_
 first | (refine r_lenS rfl rfl TF.sl54 rfl ?_) | (refine r_lenNil rfl TF.sl54 rfl ?_) | (refine r_lenV rfl TF.sl54 rfl ?_)
 refine r_cmp rfl rfl rfl rfl ?_
 refine awl_nil ?_
 refine x_then ?_
 refine awp_cond rfl (fun hc0 => ?_) (fun hc0 => ?_)
 ·
  have hltx : k < ns.length := by have := of_decide_eq_true hc0; simpa using this
  obtain ⟨x, hx⟩ := get_lt hltx
  obtain ⟨i, y, hfi, hyi, hye⟩ := find_look (show x ∈ namesF l from hns ▸ List.mem_of_getElem? hx)
  refine awp_skip ?_
  refine x_then ?_
  refine awp_seq ?_
  refine awp_block ?_
  refine awp_region ?_
  refine r_move rfl rfl ?_
  refine r_move rfl rfl ?_
  refine r_move rfl rfl ?_
  refine r_move rfl rfl ?_
  refine r_move rfl rfl ?_
  refine r_index rfl rfl rfl TF.sl54 TF.sz9 (by omega) (get_map hx) rfl ?_
  refine r_load1 rfl TF.agg9 rfl ?_
  refine r_call0 hq rfl rfl (.cons (.ev rfl rfl) (.cons (.ev rfl rfl) .nil)) (find_ok l x (by omega)) rfl TF.en74 rfl (fun r hr => ?_)
  obtain rfl := hr
  rw [hfi]
  refine r_index rfl rfl rfl TF.sl65 TF.sz71 (by simp [optI]) (get_map hyi) rfl ?_
  refine r_loadA rfl TF.agg71 TF.sz71 rfl rfl ?_
  refine r_lit 25 (parts := [(0, .tmp 24)]) rfl TF.sl65 TF.sz71 TF.zraw71 rfl rfl rfl rfl rfl rfl rfl ?_
  refine r_append 6 rfl (by first | exact .own _ | exact .nil) rfl (by first | exact .sl _ | exact .own _ _ | exact .nil) TF.sl65 TF.sz71 (by decide) TF.by71 TF.zlen71 (by simp [chunks] <;> omega) (by simp [chunks] <;> omega) rfl ?_
  refine r_assign rfl rfl ?_
  refine awl_nil ?_
  refine x_block ?_
  refine x_then ?_
  refine awp_region ?_
  refine r_move rfl rfl ?_
  refine r_ari _ rfl rfl rfl (wrap_id (by first | omega | (simp; omega))) rfl ?_
  refine r_assign rfl rfl ?_
  refine awl_nil ?_
  refine x_then ?_
  refine ⟨ns.length - (k + 1), ⟨28, [(0, .a (files l)), (3, .own 6 2 (((ns.take (k + 1)).map (fun s : ByteArray => (⟨s, (lookF l s).getD []⟩ : File))).map File.cs)), (4, .a (strsA ns)), (5, .a (.v (.int .i64 (((k + 1) : Int)))))], []⟩, ⟨rfl, (Slots.cons rfl (by first | exact .refl _ | exact .nilOwn _ _ | exact .nilSl _ | exact .ownSl _ _ _  | exact SV.le.ownEq (by first | rfl | (rw [map_take hx, List.map_append, ← hye]; rfl)) | exact SV.le.of_eq (by first | rfl | (rw [map_take hx, List.map_append, ← hye]; rfl))) (Slots.cons rfl (by first | exact .refl _ | exact .nilOwn _ _ | exact .nilSl _ | exact .ownSl _ _ _  | exact SV.le.ownEq (by first | rfl | (rw [map_take hx, List.map_append, ← hye]; rfl)) | exact SV.le.of_eq (by first | rfl | (rw [map_take hx, List.map_append, ← hye]; rfl))) (Slots.cons rfl (by first | exact .refl _ | exact .nilOwn _ _ | exact .nilSl _ | exact .ownSl _ _ _  | exact SV.le.ownEq (by first | rfl | (rw [map_take hx, List.map_append, ← hye]; rfl)) | exact SV.le.of_eq (by first | rfl | (rw [map_take hx, List.map_append, ← hye]; rfl))) (Slots.cons rfl (by first | exact .refl _ | exact .nilOwn _ _ | exact .nilSl _ | exact .ownSl _ _ _  | exact SV.le.ownEq (by first | rfl | (rw [map_take hx, List.map_append, ← hye]; rfl)) | exact SV.le.of_eq (by first | rfl | (rw [map_take hx, List.map_append, ← hye]; rfl))) Slots.nil)))), (by first | exact List.Sublist.refl _ | exact .cons_cons _ (.cons _ (.refl _)) | exact List.nil_sublist _ | exact .cons _ (.refl _) | exact .cons _ (.cons _ (.refl _)) | exact .cons _ (.cons _ (.cons _ (.refl _))) | exact .cons _ (.cons _ (.cons _ (.cons _ (.refl _)))) | exact .cons_cons _ (List.nil_sublist _))⟩, (by omega), ⟨k + 1, rfl, rfl, (by omega)⟩⟩
 ·
  have hge : ns.length ≤ k := by have := of_decide_eq_false hc0; simp at this; omega
  have hkl : ns.take k = ns := List.take_of_length_le hge
  refine awp_exit ?_
  refine x_thenE ?_
  refine x_thenE ?_
  refine x_blockE ?_
  refine x_then ?_
  refine awp_seq ?_
  refine awp_region ?_
  refine r_move rfl rfl ?_
  refine r_assign rfl rfl ?_
  refine awl_nil ?_
  refine x_then ?_
  refine awp_ret ?_
  exact ⟨(.inl rfl), _, [], (.one (by first | exact .mk rfl rfl | exact .nil rfl)), ⟨rfl, by rw [hkl, hns]; rfl⟩, (List.nil_sublist _), (by simp)⟩
theorem applyOf_ok (a b : List File) (hla : a.length ≤ 1000) (hlb : b.length ≤ 1000) (hna : ∀ f ∈ a, f.name.size ≤ 1000000) (hnb : ∀ f ∈ b, f.name.size ≤ 1000000) (hda : ∀ f ∈ a, f.data.length ≤ 1000000) (hdb : ∀ f ∈ b, f.data.length ≤ 1000000) : AC Tryd.prog 28 [files a, fcsA (OfF a b)] [] (fun r n => n = [] ∧ r = .tup [files (cleanS b), .v (.int .i64 0)]) := by
  have hl := of_len a b
  refine (apply_ok a (OfF a b) hla (by omega) hna hda (of_bound hna hnb hdb)).mono fun r n h => ?_
  obtain ⟨m, h1, h2, h3, h4⟩ := apply_clean a b
  obtain ⟨rfl, ⟨m', k1, k2, rfl⟩ | ⟨e, m', k1, k2, rfl⟩⟩ := h
  · rw [h1] at k1; cases k1; exact ⟨rfl, by rw [h4]⟩
  · rw [h1] at k1; cases k1; exact absurd rfl k2
theorem aw_of : OfF [⟨⟨#[97]⟩, [120]⟩, ⟨⟨#[98]⟩, [121]⟩] [⟨⟨#[99]⟩, [120]⟩, ⟨⟨#[98]⟩, [122]⟩] = [⟨4, ⟨#[97]⟩, ⟨#[99]⟩, []⟩, ⟨3, ⟨#[98]⟩, E0, [122]⟩] := by kernel_rfl
theorem aw_clean : cleanS [⟨⟨#[99]⟩, [120]⟩, ⟨⟨#[98]⟩, [122]⟩] = [⟨⟨#[98]⟩, [122]⟩, ⟨⟨#[99]⟩, [120]⟩] := by kernel_rfl
theorem aw_right : rightF [⟨4, ⟨#[97]⟩, ⟨#[99]⟩, []⟩, ⟨3, ⟨#[98]⟩, E0, [122]⟩] = true := by kernel_rfl
set_option maxHeartbeats 1000000 in
theorem awake_ok : AC Tryd.prog 20 [] [] (fun r n => n = [] ∧ r = boolA true) := by
 refine ac_of_awp (rs := [0]) (nt := 106) Tryd.func20 rfl rfl rfl rfl (fun w0 C0 hq => ?_)
 refine awp_seq ?_
 refine awp_region ?_
 refine r_assign rfl rfl ?_
 refine awl_nil ?_
 refine x_then ?_
 refine awp_seq ?_
 refine awp_region ?_
 refine r_lit 6 (parts := [(0, .const ((Go.Value.int Go.IntKind.u8 120)))]) rfl TF.sl22 TF.sz5 TF.zraw5 rfl rfl rfl rfl rfl rfl rfl ?_
 refine r_convBB hq rfl 6 rfl (by simp [chunks]) TF.sl22 TF.un5 rfl ?_
 refine r_build (parts := [(0, .const ((Go.Value.string { data := #[97] }))), (1, .tmp 7)]) rfl TF.pl26 TF.zero26 rfl rfl rfl ?_
 refine r_lit 9 (parts := [(0, .const ((Go.Value.int Go.IntKind.u8 121)))]) rfl TF.sl22 TF.sz5 TF.zraw5 rfl rfl rfl rfl rfl rfl rfl ?_
 refine r_convBB hq rfl 9 rfl (by simp [chunks]) TF.sl22 TF.un5 rfl ?_
 refine r_build (parts := [(0, .const ((Go.Value.string { data := #[98] }))), (1, .tmp 10)]) rfl TF.pl26 TF.zero26 rfl rfl rfl ?_
 refine r_lit 12 (parts := [(0, .tmp 8), (1, .tmp 11)]) rfl TF.sl24 TF.sz26 TF.zraw26 rfl rfl rfl rfl rfl rfl rfl ?_
 refine r_assign rfl rfl ?_
 refine awl_nil ?_
 refine x_then ?_
 refine awp_seq ?_
 refine awp_region ?_
 refine r_lit 13 (parts := [(0, .const ((Go.Value.int Go.IntKind.u8 120)))]) rfl TF.sl22 TF.sz5 TF.zraw5 rfl rfl rfl rfl rfl rfl rfl ?_
 refine r_convBB hq rfl 13 rfl (by simp [chunks]) TF.sl22 TF.un5 rfl ?_
 refine r_build (parts := [(0, .const ((Go.Value.string { data := #[99] }))), (1, .tmp 14)]) rfl TF.pl26 TF.zero26 rfl rfl rfl ?_
 refine r_lit 16 (parts := [(0, .const ((Go.Value.int Go.IntKind.u8 122)))]) rfl TF.sl22 TF.sz5 TF.zraw5 rfl rfl rfl rfl rfl rfl rfl ?_
 refine r_convBB hq rfl 16 rfl (by simp [chunks]) TF.sl22 TF.un5 rfl ?_
 refine r_build (parts := [(0, .const ((Go.Value.string { data := #[98] }))), (1, .tmp 17)]) rfl TF.pl26 TF.zero26 rfl rfl rfl ?_
 refine r_lit 19 (parts := [(0, .tmp 15), (1, .tmp 18)]) rfl TF.sl24 TF.sz26 TF.zraw26 rfl rfl rfl rfl rfl rfl rfl ?_
 refine r_assign rfl rfl ?_
 refine awl_nil ?_
 refine x_then ?_
 refine awp_seq ?_
 refine awp_region ?_
 refine r_move rfl rfl ?_
 refine r_move rfl rfl ?_
 refine r_call0 hq rfl rfl (.cons (.ev rfl rfl) (.cons (.ev rfl rfl) .nil)) (of_ok [⟨⟨#[97]⟩, [120]⟩, ⟨⟨#[98]⟩, [121]⟩] [⟨⟨#[99]⟩, [120]⟩, ⟨⟨#[98]⟩, [122]⟩] (by simp) (by simp) (by decide) (by decide) (by decide) (by decide)) rfl TF.en18 rfl (fun r hr => ?_)
 obtain rfl := hr
 refine r_assign rfl rfl ?_
 refine awl_nil ?_
 refine x_then ?_
 refine awp_seq ?_
 refine awp_region ?_
 refine r_move rfl rfl ?_
 refine r_move rfl rfl ?_
 refine r_call0 hq rfl rfl (.cons (.ev rfl rfl) (.cons (.ev rfl rfl) .nil)) (applyOf_ok [⟨⟨#[97]⟩, [120]⟩, ⟨⟨#[98]⟩, [121]⟩] [⟨⟨#[99]⟩, [120]⟩, ⟨⟨#[98]⟩, [122]⟩] (by simp) (by simp) (by decide) (by decide) (by decide) (by decide)) rfl TF.en28 rfl (fun r hr => ?_)
 obtain rfl := hr
 rw [aw_clean, aw_of]
 refine r_move rfl rfl ?_
 refine r_extract rfl rfl rfl ?_
 refine r_extract rfl rfl rfl ?_
 refine r_assign rfl rfl ?_
 refine r_assign rfl rfl ?_
 refine awl_nil ?_
 refine x_then ?_
 refine awp_seq ?_
 refine awp_region ?_
 refine r_move rfl rfl ?_
 first | (refine r_lenS rfl rfl TF.sl57 rfl ?_) | (refine r_lenNil rfl TF.sl57 rfl ?_) | (refine r_lenV rfl TF.sl57 rfl ?_)
 refine r_cmp rfl rfl rfl rfl ?_
 refine r_move rfl rfl ?_
 refine g_run rfl rfl rfl ?_
 refine r_move rfl rfl ?_
 refine g_run rfl rfl rfl ?_
 refine r_index rfl rfl rfl TF.sl57 TF.sz70 (by decide) rfl rfl ?_
 refine g_run rfl rfl rfl ?_
 first | (refine r_fieldcp rfl TF.f70_0 TF.sz3 rfl ?_) | (refine r_fieldb rfl TF.f70_0 TF.sz3 rfl ?_)
 refine g_run rfl rfl rfl ?_
 refine r_load1 rfl TF.agg3 rfl ?_
 refine g_run rfl rfl rfl ?_
 refine r_cmp rfl rfl rfl rfl ?_
 refine r_pickT rfl rfl rfl rfl ?_
 refine r_move rfl rfl ?_
 refine g_run rfl rfl rfl ?_
 refine r_move rfl rfl ?_
 refine g_run rfl rfl rfl ?_
 refine r_index rfl rfl rfl TF.sl57 TF.sz70 (by decide) rfl rfl ?_
 refine g_run rfl rfl rfl ?_
 first | (refine r_fieldcp rfl TF.f70_1 TF.sz9 rfl ?_) | (refine r_fieldb rfl TF.f70_1 TF.sz9 rfl ?_)
 refine g_run rfl rfl rfl ?_
 refine r_load1 rfl TF.agg9 rfl ?_
 refine g_run rfl rfl rfl ?_
 refine r_str2 rfl rfl rfl rfl ?_
 refine r_pickT rfl rfl rfl rfl ?_
 refine r_move rfl rfl ?_
 refine g_run rfl rfl rfl ?_
 refine r_move rfl rfl ?_
 refine g_run rfl rfl rfl ?_
 refine r_index rfl rfl rfl TF.sl57 TF.sz70 (by decide) rfl rfl ?_
 refine g_run rfl rfl rfl ?_
 first | (refine r_fieldcp rfl TF.f70_2 TF.sz9 rfl ?_) | (refine r_fieldb rfl TF.f70_2 TF.sz9 rfl ?_)
 refine g_run rfl rfl rfl ?_
 refine r_load1 rfl TF.agg9 rfl ?_
 refine g_run rfl rfl rfl ?_
 refine r_str2 rfl rfl rfl rfl ?_
 refine r_pickT rfl rfl rfl rfl ?_
 refine r_move rfl rfl ?_
 refine g_run rfl rfl rfl ?_
 refine r_move rfl rfl ?_
 refine g_run rfl rfl rfl ?_
 refine r_index rfl rfl rfl TF.sl57 TF.sz70 (by decide) rfl rfl ?_
 refine g_run rfl rfl rfl ?_
 first | (refine r_fieldcp rfl TF.f70_0 TF.sz3 rfl ?_) | (refine r_fieldb rfl TF.f70_0 TF.sz3 rfl ?_)
 refine g_run rfl rfl rfl ?_
 refine r_load1 rfl TF.agg3 rfl ?_
 refine g_run rfl rfl rfl ?_
 refine r_cmp rfl rfl rfl rfl ?_
 refine r_pickT rfl rfl rfl rfl ?_
 refine r_move rfl rfl ?_
 refine g_run rfl rfl rfl ?_
 refine r_move rfl rfl ?_
 refine g_run rfl rfl rfl ?_
 refine r_index rfl rfl rfl TF.sl57 TF.sz70 (by decide) rfl rfl ?_
 refine g_run rfl rfl rfl ?_
 first | (refine r_fieldcp rfl TF.f70_1 TF.sz9 rfl ?_) | (refine r_fieldb rfl TF.f70_1 TF.sz9 rfl ?_)
 refine g_run rfl rfl rfl ?_
 refine r_load1 rfl TF.agg9 rfl ?_
 refine g_run rfl rfl rfl ?_
 refine r_str2 rfl rfl rfl rfl ?_
 refine r_pickT rfl rfl rfl rfl ?_
 refine r_move rfl rfl ?_
 refine g_run rfl rfl rfl ?_
 refine r_move rfl rfl ?_
 refine g_run rfl rfl rfl ?_
 refine r_index rfl rfl rfl TF.sl57 TF.sz70 (by decide) rfl rfl ?_
 refine g_run rfl rfl rfl ?_
 first | (refine r_fieldcp rfl TF.f70_3 TF.sz22 rfl ?_) | (refine r_fieldb rfl TF.f70_3 TF.sz22 rfl ?_)
 refine g_run rfl rfl rfl ?_
 refine r_load1 rfl TF.agg22 rfl ?_
 refine g_run rfl rfl rfl ?_
 refine r_convBS [122] rfl rfl TF.sl22 TF.un5 TF.un9 rfl ?_
 refine g_run rfl rfl rfl ?_
 refine r_str2 rfl rfl rfl rfl ?_
 refine r_pickT rfl rfl rfl rfl ?_
 refine r_move rfl rfl ?_
 refine g_run rfl rfl rfl ?_
 refine r_move rfl rfl ?_
 refine g_run rfl rfl rfl ?_
 refine r_cmp rfl rfl rfl rfl ?_
 refine r_pickT rfl rfl rfl rfl ?_
 refine r_move rfl rfl ?_
 refine g_run rfl rfl rfl ?_
 refine r_move rfl rfl ?_
 refine g_run rfl rfl rfl ?_
 first | (refine r_lenS rfl rfl TF.sl24 rfl ?_) | (refine r_lenNil rfl TF.sl24 rfl ?_) | (refine r_lenV rfl TF.sl24 rfl ?_)
 refine g_run rfl rfl rfl ?_
 refine r_cmp rfl rfl rfl rfl ?_
 refine r_pickT rfl rfl rfl rfl ?_
 refine r_move rfl rfl ?_
 refine g_run rfl rfl rfl ?_
 refine r_move rfl rfl ?_
 refine g_run rfl rfl rfl ?_
 refine r_index rfl rfl rfl TF.sl24 TF.sz26 (by decide) rfl rfl ?_
 refine g_run rfl rfl rfl ?_
 first | (refine r_fieldcp rfl TF.f26_0 TF.sz9 rfl ?_) | (refine r_fieldb rfl TF.f26_0 TF.sz9 rfl ?_)
 refine g_run rfl rfl rfl ?_
 refine r_load1 rfl TF.agg9 rfl ?_
 refine g_run rfl rfl rfl ?_
 refine r_str2 rfl rfl rfl rfl ?_
 refine r_pickT rfl rfl rfl rfl ?_
 refine r_move rfl rfl ?_
 refine g_run rfl rfl rfl ?_
 refine r_move rfl rfl ?_
 refine g_run rfl rfl rfl ?_
 refine r_index rfl rfl rfl TF.sl24 TF.sz26 (by decide) rfl rfl ?_
 refine g_run rfl rfl rfl ?_
 first | (refine r_fieldcp rfl TF.f26_0 TF.sz9 rfl ?_) | (refine r_fieldb rfl TF.f26_0 TF.sz9 rfl ?_)
 refine g_run rfl rfl rfl ?_
 refine r_load1 rfl TF.agg9 rfl ?_
 refine g_run rfl rfl rfl ?_
 refine r_str2 rfl rfl rfl rfl ?_
 refine r_pickT rfl rfl rfl rfl ?_
 refine r_move rfl rfl ?_
 refine g_run rfl rfl rfl ?_
 refine r_move rfl rfl ?_
 refine g_run rfl rfl rfl ?_
 refine r_call0 hq rfl rfl (.cons (.ev rfl rfl) .nil) (right_ok [⟨4, ⟨#[97]⟩, ⟨#[99]⟩, []⟩, ⟨3, ⟨#[98]⟩, E0, [122]⟩] (by simp)) rfl TF.en63 rfl (fun r hr => ?_)
 obtain rfl := hr
 rw [aw_right]
 refine r_pickT rfl rfl rfl rfl ?_
 refine r_move rfl rfl ?_
 first | refine r_pickT rfl (by first | rfl | assumption) rfl rfl ?_ | refine r_pickF rfl (by first | rfl | assumption) rfl rfl ?_
 refine r_move rfl rfl ?_
 first | refine r_pickT rfl (by first | rfl | assumption) rfl rfl ?_ | refine r_pickF rfl (by first | rfl | assumption) rfl rfl ?_
 refine r_assign rfl rfl ?_
 refine awl_nil ?_
 refine x_then ?_
 refine awp_ret ?_
 exact ⟨(.inl rfl), _, [], (.one (by first | exact .mk rfl rfl | exact .nil rfl)), ⟨rfl, rfl⟩, (List.nil_sublist _), (by simp)⟩
end Go.Proofs.YtcbhhjahjnlfhaaDoor.A

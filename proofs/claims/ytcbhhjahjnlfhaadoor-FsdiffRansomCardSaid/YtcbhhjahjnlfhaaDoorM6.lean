import Derived.WalkKit
import Derived.Below
import Derived.Laws.Rows
import Derived.Laws.CopyRow
import Derived.Laws.AppendOwn
import Derived.RangeFuncLeaves
import Derived.RangeFuncSeq
import Derived.RangeFuncCalls
import Derived.MapKept
import Derived.Orders
import Derived.Laws.IdiomStrings
import Derived.Laws.BytesArg
import Derived.Shelf.SlIter.Nil
import Derived.Shelf.SortM.Plain
import Derived.Shelf.SortM.SortNone
import Derived.Ground.GgzProg
import Derived.Ground.SlgmProg
import Derived.Test.YtcbhhjahjnlfhaaDoorProg
import Derived.KernelRfl
import Derived.RangeFuncBound
import Derived.Maps.RangeRun
import Derived.DeepKeys3
import Derived.Laws.StructEq
import Derived.Shelf.SlSortCmp.NoneTotal
import Derived.ChangeKeysEq
import Derived.Laws.MakeOwn
import Derived.ChangeArms
import Derived.ChangeOld
import Derived.Laws.DeepStrings4
import Derived.OpenShut
import Derived.OrdersIn
import Derived.Lib.AppendZeros
import Derived.Lib.AppendZerosOnto
import Derived.Lib.Overlaps
import Derived.Deep.AppendSrc
import Derived.Lib.BytesEntry
import Derived.Laws.Concat
import Derived.Laws.Strings3
import Derived.Test.YtcbhhjahjnlfhaaDoorRows
import Derived.ProofKit
import Derived.LaidMore
import Derived.Stop.Joined
import Derived.Test.YtcbhhjahjnlfhaaDoorM5
namespace Go.Proofs.YtcbhhjahjnlfhaaDoor.A
open Go Go.RowKit
set_option linter.unusedVariables false
set_option linter.unusedSimpArgs false
set_option maxRecDepth 100000
theorem TF.sl87 : sliceT Tryd.prog 87 = some 3 := by kernel_rfl
theorem TF.zraw3 : zeroT Tryd.prog 3 = some [(.int .i64 0)] := by kernel_rfl
theorem TF.en106 : entersT Tryd.prog 106 := enters_of Tryd.func106 (by kernel_rfl) (by kernel_rfl)
theorem TF.en89 : entersT Tryd.prog 89 := enters_of Tryd.func89 (by kernel_rfl) (by kernel_rfl)
theorem TF.en90 : entersT Tryd.prog 90 := enters_of Tryd.func90 (by kernel_rfl) (by kernel_rfl)
theorem TF.by9 : bytesT Tryd.prog 9 = some 16 := by kernel_rfl
theorem TF.zlen9 : (zeroT Tryd.prog 9).map (·.length) = some 1 := by kernel_rfl
theorem TF.map100 : mapT Tryd.prog 100 = some (9, 4) := by kernel_rfl
theorem TF.zav4 : ZeroAV Tryd.prog 4 (.v (.bool false)) := ⟨.v (.bool false), by kernel_rfl, .one (.refl _)⟩
theorem indexI_ok (l : List Int) (v : Int) (hl : l.length ≤ 1000000) : AC Tryd.prog 106 [.sl 1 (l.map fun x => [AV.v (.int .i64 x)]), .v (.int .i64 v)] [] (fun r n => n = [] ∧ r = .v (.int .i64 (optI (l.findIdx? (fun x => v == x))))) := by
 refine ac_of_awp (rs := [4]) (nt := 19) Tryd.func106 rfl rfl rfl rfl (fun w0 C0 hq => ?_)
 refine awp_seq ?_
 refine awp_region ?_
 refine r_assign rfl rfl ?_
 refine awl_nil ?_
 refine x_then ?_
 refine awp_seq ?_
 refine awp_seq ?_
 refine awp_region ?_
 refine r_move rfl rfl ?_
 refine r_lenS rfl rfl TF.sl87 rfl ?_
 refine r_move rfl rfl ?_
 refine awl_nil ?_
 refine x_then ?_
 refine awp_block ?_
 refine awp_loop (fun nn0 S => ∃ k : Nat, S = ⟨19, [(0, .a (.sl 1 (l.map fun x => [AV.v (.int .i64 x)]))), (1, .a (.v (.int .i64 v))), (7, .a (.v (.int .i64 ((l.map fun x => [AV.v (.int .i64 x)]).length)))), (8, .a (.v (.int .i64 ((k : Int)))))], []⟩ ∧ nn0 = l.length - k ∧ (k ≤ l.length) ∧ ((l.take k).findIdx? (fun x => v == x) = none)) (l.length - (0)) ⟨19, [(0, .a (.sl 1 (l.map fun x => [AV.v (.int .i64 x)]))), (1, .a (.v (.int .i64 v))), (7, .a (.v (.int .i64 ((l.map fun x => [AV.v (.int .i64 x)]).length)))), (8, .a (.v (.int .i64 (((0) : Int)))))], []⟩ ⟨rfl, (Slots.cons rfl (by first | exact .refl _ | exact .nilOwn _ _ | exact .nilSl _ | exact .ownSl _ _ _  | exact SV.le.of_eq (by simp)) (Slots.cons rfl (by first | exact .refl _ | exact .nilOwn _ _ | exact .nilSl _ | exact .ownSl _ _ _  | exact SV.le.of_eq (by simp)) (Slots.cons rfl (by first | exact .refl _ | exact .nilOwn _ _ | exact .nilSl _ | exact .ownSl _ _ _  | exact SV.le.of_eq (by simp)) (Slots.cons rfl (by first | exact .refl _ | exact .nilOwn _ _ | exact .nilSl _ | exact .ownSl _ _ _  | exact SV.le.of_eq (by simp)) Slots.nil)))), (by first | exact List.Sublist.refl _ | exact .cons_cons _ (.cons _ (.refl _)) | exact List.nil_sublist _ | exact .cons _ (.refl _) | exact .cons _ (.cons _ (.refl _)) | exact .cons _ (.cons _ (.cons _ (.refl _))) | exact .cons _ (.cons _ (.cons _ (.cons _ (.refl _)))) | exact .cons_cons _ (List.nil_sublist _))⟩ ⟨0, rfl, rfl, Nat.zero_le _, rfl⟩ ?_
 rintro nn0 _ ⟨k, rfl, rfl, hk, hno⟩
 refine awp_seq ?_
 refine awp_region ?_
 refine r_cmp rfl rfl rfl rfl ?_
 refine awl_nil ?_
 refine x_then ?_
 refine awp_seq ?_
 refine awp_cond rfl (fun hc0 => ?_) (fun hc0 => ?_)
 ·
  have hltx : k < l.length := by have := of_decide_eq_true hc0; simpa using this
  obtain ⟨x, hx⟩ := get_lt hltx
  refine awp_skip ?_
  refine x_then ?_
  refine awp_seq ?_
  refine awp_block ?_
  refine awp_seq ?_
  refine awp_region ?_
  refine r_move rfl rfl ?_
  refine r_assign rfl rfl ?_
  refine awl_nil ?_
  refine x_then ?_
  refine awp_seq ?_
  refine awp_region ?_
  refine r_move rfl rfl ?_
  refine r_move rfl rfl ?_
  refine r_move rfl rfl ?_
  refine r_index rfl rfl rfl TF.sl87 TF.sz3 (by omega) (get_map hx) rfl ?_
  refine r_load1 rfl TF.agg3 rfl ?_
  refine r_cmp rfl rfl rfl rfl ?_
  refine awl_nil ?_
  refine x_then ?_
  refine awp_cond rfl (fun hc1 => ?_) (fun hc1 => ?_)
  ·
   refine awp_seq ?_
   refine awp_region ?_
   refine r_move rfl rfl ?_
   refine r_assign rfl rfl ?_
   refine awl_nil ?_
   refine x_then ?_
   refine awp_ret ?_
   refine x_blockR ?_
   refine x_thenR ?_
   refine x_thenR ?_
   refine x_blockR ?_
   refine x_thenR ?_
   exact ⟨(.inl rfl), _, [], (.one (by first | exact .mk rfl rfl | exact .nil rfl)), ⟨rfl, by rw [fidx_hit hx hc1 hno]; rfl⟩, (List.nil_sublist _), (by simp)⟩
  ·
   refine awp_skip ?_
   refine x_block ?_
   refine x_then ?_
   refine awp_region ?_
   refine r_ari _ rfl rfl rfl (wrap_id (by first | omega | (simp; omega))) rfl ?_
   refine r_move rfl rfl ?_
   refine awl_nil ?_
   refine x_then ?_
   refine ⟨l.length - (k + 1), ⟨19, [(0, .a (.sl 1 (l.map fun x => [AV.v (.int .i64 x)]))), (1, .a (.v (.int .i64 v))), (7, .a (.v (.int .i64 ((l.map fun x => [AV.v (.int .i64 x)]).length)))), (8, .a (.v (.int .i64 (((k + 1) : Int)))))], []⟩, ⟨rfl, (Slots.cons rfl (by first | exact .refl _ | exact .nilOwn _ _ | exact .nilSl _ | exact .ownSl _ _ _  | exact SV.le.of_eq (by simp)) (Slots.cons rfl (by first | exact .refl _ | exact .nilOwn _ _ | exact .nilSl _ | exact .ownSl _ _ _  | exact SV.le.of_eq (by simp)) (Slots.cons rfl (by first | exact .refl _ | exact .nilOwn _ _ | exact .nilSl _ | exact .ownSl _ _ _  | exact SV.le.of_eq (by simp)) (Slots.cons rfl (by first | exact .refl _ | exact .nilOwn _ _ | exact .nilSl _ | exact .ownSl _ _ _  | exact SV.le.of_eq (by simp)) Slots.nil)))), (by first | exact List.Sublist.refl _ | exact .cons_cons _ (.cons _ (.refl _)) | exact List.nil_sublist _ | exact .cons _ (.refl _) | exact .cons _ (.cons _ (.refl _)) | exact .cons _ (.cons _ (.cons _ (.refl _))) | exact .cons _ (.cons _ (.cons _ (.cons _ (.refl _)))) | exact .cons_cons _ (List.nil_sublist _))⟩, (by omega), ⟨k + 1, rfl, rfl, (by omega), (fidx_step hx hc1 hno)⟩⟩
 ·
  have hge : l.length ≤ k := by have := of_decide_eq_false hc0; simp at this; omega
  refine awp_exit ?_
  refine x_thenE ?_
  refine x_thenE ?_
  refine x_blockE ?_
  refine x_then ?_
  refine awp_seq ?_
  refine awp_region ?_
  refine r_assign rfl rfl ?_
  refine awl_nil ?_
  refine x_then ?_
  refine awp_ret ?_
  exact ⟨(.inl rfl), _, [], (.one (by first | exact .mk rfl rfl | exact .nil rfl)), ⟨rfl, by rw [fidx_end hge hno]; rfl⟩, (List.nil_sublist _), (by simp)⟩
theorem rank_ok (k : Int) : AC Tryd.prog 89 [.v (.int .i64 k)] [] (fun r n => n = [] ∧ r = .v (.int .i64 (rankF k))) := by
 refine ac_of_awp (rs := [2]) (nt := 6) Tryd.func89 rfl rfl rfl rfl (fun w0 C0 hq => ?_)
 refine awp_seq ?_
 refine awp_region ?_
 refine r_assign rfl rfl ?_
 refine awl_nil ?_
 refine x_then ?_
 refine awp_seq ?_
 refine awp_region ?_
 refine r_lit 3 (parts := [(0, .const ((Go.Value.int Go.IntKind.i64 4))), (1, .const ((Go.Value.int Go.IntKind.i64 2))), (2, .const ((Go.Value.int Go.IntKind.i64 3))), (3, .const ((Go.Value.int Go.IntKind.i64 1)))]) rfl TF.sl87 TF.sz3 TF.zraw3 rfl rfl rfl rfl rfl rfl rfl ?_
 refine r_move rfl rfl ?_
 refine r_call0 hq rfl rfl (.cons (.ev rfl rfl) (.cons (.ev rfl rfl) .nil)) (indexI_ok [4, 2, 3, 1] k (by simp)) rfl TF.en106 rfl (fun r hr => ?_)
 obtain rfl := hr
 refine r_assign rfl rfl ?_
 refine awl_nil ?_
 refine x_then ?_
 refine awp_ret ?_
 exact ⟨(.inl rfl), _, [], (.one (by first | exact .mk rfl rfl | exact .nil rfl)), ⟨rfl, rfl⟩, (List.nil_sublist _), (by simp)⟩
theorem bare_ok (c : FC) : AC Tryd.prog 90 [.agg (FC.cs c)] [] (fun r n => n = [] ∧ r = boolA (bareF c)) := by
 refine ac_of_awp (rs := [2]) (nt := 25) Tryd.func90 rfl rfl rfl rfl (fun w0 C0 hq => ?_)
 refine awp_seq ?_
 refine awp_region ?_
 refine r_box rfl rfl rfl (fun b1 => ?_)
 refine r_assign rfl rfl ?_
 refine awl_nil ?_
 refine x_then ?_
 refine awp_seq ?_
 refine awp_seq ?_
 refine awp_region ?_
 refine r_fieldb rfl TF.f70_0 TF.sz3 rfl ?_
 refine r_load1b 0 rfl rfl rfl TF.agg3 rfl ?_
 refine r_cmp rfl rfl rfl rfl ?_
 refine r_move rfl rfl ?_
 refine g_cases (t' := 6) rfl (fun hg6 => ?_) (fun hg6 => ?_)
 ·
  have h4 : (c.kind == 4) = false := by simpa using hg6
  refine g_run rfl rfl hg6 ?_
  refine r_fieldb rfl TF.f70_2 TF.sz9 rfl ?_
  refine g_run rfl rfl hg6 ?_
  refine r_load1b 0 rfl rfl rfl TF.agg9 rfl ?_
  refine g_run rfl rfl hg6 ?_
  refine r_str2 rfl rfl rfl rfl ?_
  refine r_pickT rfl hg6 rfl rfl ?_
  refine awl_nil ?_
  refine x_then ?_
  refine awp_cond rfl (fun hc0 => ?_) (fun hc0 => ?_)
  ·
   have ht : decide (c.to = E0) = false := by rw [E0]; simpa using hc0
   refine awp_seq ?_
   refine awp_region ?_
   refine r_assign rfl rfl ?_
   refine awl_nil ?_
   refine x_then ?_
   refine awp_ret ?_
   refine x_thenR ?_
   exact ⟨(.inl rfl), _, [], (.one (by first | exact .mk rfl rfl | exact .nil rfl)), ⟨rfl, by first | (simp only [bareF, h4, ht, Bool.not_true, Bool.not_false, Bool.true_and, Bool.and_true, Bool.false_and, Bool.and_false]; rfl) | (simp only [bareF, h4, hl, Bool.not_true, Bool.not_false, Bool.true_and, Bool.and_true, Bool.false_and, Bool.true_or]; rfl) | (simp only [bareF, h4, ht, hl, Bool.not_true, Bool.not_false, Bool.true_and, Bool.and_true, Bool.false_and, Bool.true_or]; rfl) | (simp only [bareF, h4, hl, h1, Bool.not_true, Bool.not_false, Bool.true_and, Bool.and_true, Bool.false_and, Bool.true_or, Bool.false_or]; rfl) | (simp only [bareF, h4, ht, hl, h1, Bool.not_true, Bool.not_false, Bool.true_and, Bool.and_true, Bool.false_and, Bool.true_or, Bool.false_or]; rfl)⟩, (List.nil_sublist _), (by simp)⟩
  ·
   have ht : decide (c.to = E0) = true := by rw [E0]; simpa using hc0
   refine awp_skip ?_
   refine x_then ?_
   refine awp_seq ?_
   refine awp_region ?_
   refine r_fieldb rfl TF.f70_3 TF.sz22 rfl ?_
   refine r_load1b 0 rfl rfl rfl TF.agg22 rfl ?_
   refine r_lenS rfl rfl TF.sl22 rfl ?_
   refine r_cmp rfl rfl rfl rfl ?_
   refine r_move rfl rfl ?_
   refine g_cases (t' := 15) rfl (fun hg15 => ?_) (fun hg15 => ?_)
   ·
    have hl : decide (c.data.length = 0) = true := by have := eq_of_beq hg15; rw [u8s_len] at this; simpa using this
    refine g_skip rfl rfl hg15 rfl ?_
    refine g_skip rfl rfl hg15 rfl ?_
    refine g_skip rfl rfl hg15 rfl ?_
    refine r_pickT rfl hg15 rfl rfl ?_
    refine r_move rfl rfl ?_
    refine g_skip rfl rfl rfl rfl ?_
    refine g_skip rfl rfl rfl rfl ?_
    refine g_skip rfl rfl rfl rfl ?_
    refine r_pickT rfl rfl rfl rfl ?_
    refine r_assign rfl rfl ?_
    refine awl_nil ?_
    refine x_then ?_
    refine awp_ret ?_
    exact ⟨(.inl rfl), _, [], (.one (by first | exact .mk rfl rfl | exact .nil rfl)), ⟨rfl, by first | (simp only [bareF, h4, ht, Bool.not_true, Bool.not_false, Bool.true_and, Bool.and_true, Bool.false_and, Bool.and_false]; rfl) | (simp only [bareF, h4, hl, Bool.not_true, Bool.not_false, Bool.true_and, Bool.and_true, Bool.false_and, Bool.true_or]; rfl) | (simp only [bareF, h4, ht, hl, Bool.not_true, Bool.not_false, Bool.true_and, Bool.and_true, Bool.false_and, Bool.true_or]; rfl) | (simp only [bareF, h4, hl, h1, Bool.not_true, Bool.not_false, Bool.true_and, Bool.and_true, Bool.false_and, Bool.true_or, Bool.false_or]; rfl) | (simp only [bareF, h4, ht, hl, h1, Bool.not_true, Bool.not_false, Bool.true_and, Bool.and_true, Bool.false_and, Bool.true_or, Bool.false_or]; rfl)⟩, (List.nil_sublist _), (by simp)⟩
   ·
    have hl : decide (c.data.length = 0) = false := by simp [u8s_len] at hg15; simpa using hg15
    refine g_run rfl rfl hg15 ?_
    refine r_fieldb rfl TF.f70_0 TF.sz3 rfl ?_
    refine g_run rfl rfl hg15 ?_
    refine r_load1b 0 rfl rfl rfl TF.agg3 rfl ?_
    refine g_run rfl rfl hg15 ?_
    refine r_cmp rfl rfl rfl rfl ?_
    refine r_pickF rfl hg15 rfl rfl ?_
    refine r_move rfl rfl ?_
    refine g_cases (t' := 20) rfl (fun hg20 => ?_) (fun hg20 => ?_)
    ·
     have h1 : (c.kind == 1) = true := hg20
     refine g_skip rfl rfl hg20 rfl ?_
     refine g_skip rfl rfl hg20 rfl ?_
     refine g_skip rfl rfl hg20 rfl ?_
     refine r_pickT rfl hg20 rfl rfl ?_
     refine r_assign rfl rfl ?_
     refine awl_nil ?_
     refine x_then ?_
     refine awp_ret ?_
     exact ⟨(.inl rfl), _, [], (.one (by first | exact .mk rfl rfl | exact .nil rfl)), ⟨rfl, by first | (simp only [bareF, h4, ht, Bool.not_true, Bool.not_false, Bool.true_and, Bool.and_true, Bool.false_and, Bool.and_false]; rfl) | (simp only [bareF, h4, hl, Bool.not_true, Bool.not_false, Bool.true_and, Bool.and_true, Bool.false_and, Bool.true_or]; rfl) | (simp only [bareF, h4, ht, hl, Bool.not_true, Bool.not_false, Bool.true_and, Bool.and_true, Bool.false_and, Bool.true_or]; rfl) | (simp only [bareF, h4, hl, h1, Bool.not_true, Bool.not_false, Bool.true_and, Bool.and_true, Bool.false_and, Bool.true_or, Bool.false_or]; rfl) | (simp only [bareF, h4, ht, hl, h1, Bool.not_true, Bool.not_false, Bool.true_and, Bool.and_true, Bool.false_and, Bool.true_or, Bool.false_or]; rfl)⟩, (List.nil_sublist _), (by simp)⟩
    ·
     have h1 : (c.kind == 1) = false := hg20
     refine g_run rfl rfl hg20 ?_
     refine r_fieldb rfl TF.f70_0 TF.sz3 rfl ?_
     refine g_run rfl rfl hg20 ?_
     refine r_load1b 0 rfl rfl rfl TF.agg3 rfl ?_
     refine g_run rfl rfl hg20 ?_
     refine r_cmp rfl rfl rfl rfl ?_
     refine r_pickF rfl hg20 rfl rfl ?_
     refine r_assign rfl rfl ?_
     refine awl_nil ?_
     refine x_then ?_
     refine awp_ret ?_
     exact ⟨(.inl rfl), _, [], (.one (by first | exact .mk rfl rfl | exact .nil rfl)), ⟨rfl, by first | (simp only [bareF, h4, ht, Bool.not_true, Bool.not_false, Bool.true_and, Bool.and_true, Bool.false_and, Bool.and_false]; rfl) | (simp only [bareF, h4, hl, Bool.not_true, Bool.not_false, Bool.true_and, Bool.and_true, Bool.false_and, Bool.true_or]; rfl) | (simp only [bareF, h4, ht, hl, Bool.not_true, Bool.not_false, Bool.true_and, Bool.and_true, Bool.false_and, Bool.true_or]; rfl) | (simp only [bareF, h4, hl, h1, Bool.not_true, Bool.not_false, Bool.true_and, Bool.and_true, Bool.false_and, Bool.true_or, Bool.false_or]; rfl) | (simp only [bareF, h4, ht, hl, h1, Bool.not_true, Bool.not_false, Bool.true_and, Bool.and_true, Bool.false_and, Bool.true_or, Bool.false_or]; rfl)⟩, (List.nil_sublist _), (by simp)⟩
 ·
  have h4 : (c.kind == 4) = true := by simpa using hg6
  refine g_skip rfl rfl hg6 rfl ?_
  refine g_skip rfl rfl hg6 rfl ?_
  refine g_skip rfl rfl hg6 rfl ?_
  refine r_pickF rfl hg6 rfl rfl ?_
  refine awl_nil ?_
  refine x_then ?_
  refine awp_condF rfl ?_
  refine awp_skip ?_
  refine x_then ?_
  refine awp_seq ?_
  refine awp_region ?_
  refine r_fieldb rfl TF.f70_3 TF.sz22 rfl ?_
  refine r_load1b 0 rfl rfl rfl TF.agg22 rfl ?_
  refine r_lenS rfl rfl TF.sl22 rfl ?_
  refine r_cmp rfl rfl rfl rfl ?_
  refine r_move rfl rfl ?_
  refine g_cases (t' := 15) rfl (fun hg15 => ?_) (fun hg15 => ?_)
  ·
   have hl : decide (c.data.length = 0) = true := by have := eq_of_beq hg15; rw [u8s_len] at this; simpa using this
   refine g_skip rfl rfl hg15 rfl ?_
   refine g_skip rfl rfl hg15 rfl ?_
   refine g_skip rfl rfl hg15 rfl ?_
   refine r_pickT rfl hg15 rfl rfl ?_
   refine r_move rfl rfl ?_
   refine g_skip rfl rfl rfl rfl ?_
   refine g_skip rfl rfl rfl rfl ?_
   refine g_skip rfl rfl rfl rfl ?_
   refine r_pickT rfl rfl rfl rfl ?_
   refine r_assign rfl rfl ?_
   refine awl_nil ?_
   refine x_then ?_
   refine awp_ret ?_
   exact ⟨(.inl rfl), _, [], (.one (by first | exact .mk rfl rfl | exact .nil rfl)), ⟨rfl, by first | (simp only [bareF, h4, ht, Bool.not_true, Bool.not_false, Bool.true_and, Bool.and_true, Bool.false_and, Bool.and_false]; rfl) | (simp only [bareF, h4, hl, Bool.not_true, Bool.not_false, Bool.true_and, Bool.and_true, Bool.false_and, Bool.true_or]; rfl) | (simp only [bareF, h4, ht, hl, Bool.not_true, Bool.not_false, Bool.true_and, Bool.and_true, Bool.false_and, Bool.true_or]; rfl) | (simp only [bareF, h4, hl, h1, Bool.not_true, Bool.not_false, Bool.true_and, Bool.and_true, Bool.false_and, Bool.true_or, Bool.false_or]; rfl) | (simp only [bareF, h4, ht, hl, h1, Bool.not_true, Bool.not_false, Bool.true_and, Bool.and_true, Bool.false_and, Bool.true_or, Bool.false_or]; rfl)⟩, (List.nil_sublist _), (by simp)⟩
  ·
   have hl : decide (c.data.length = 0) = false := by simp [u8s_len] at hg15; simpa using hg15
   refine g_run rfl rfl hg15 ?_
   refine r_fieldb rfl TF.f70_0 TF.sz3 rfl ?_
   refine g_run rfl rfl hg15 ?_
   refine r_load1b 0 rfl rfl rfl TF.agg3 rfl ?_
   refine g_run rfl rfl hg15 ?_
   refine r_cmp rfl rfl rfl rfl ?_
   refine r_pickF rfl hg15 rfl rfl ?_
   refine r_move rfl rfl ?_
   refine g_cases (t' := 20) rfl (fun hg20 => ?_) (fun hg20 => ?_)
   ·
    have h1 : (c.kind == 1) = true := hg20
    refine g_skip rfl rfl hg20 rfl ?_
    refine g_skip rfl rfl hg20 rfl ?_
    refine g_skip rfl rfl hg20 rfl ?_
    refine r_pickT rfl hg20 rfl rfl ?_
    refine r_assign rfl rfl ?_
    refine awl_nil ?_
    refine x_then ?_
    refine awp_ret ?_
    exact ⟨(.inl rfl), _, [], (.one (by first | exact .mk rfl rfl | exact .nil rfl)), ⟨rfl, by first | (simp only [bareF, h4, ht, Bool.not_true, Bool.not_false, Bool.true_and, Bool.and_true, Bool.false_and, Bool.and_false]; rfl) | (simp only [bareF, h4, hl, Bool.not_true, Bool.not_false, Bool.true_and, Bool.and_true, Bool.false_and, Bool.true_or]; rfl) | (simp only [bareF, h4, ht, hl, Bool.not_true, Bool.not_false, Bool.true_and, Bool.and_true, Bool.false_and, Bool.true_or]; rfl) | (simp only [bareF, h4, hl, h1, Bool.not_true, Bool.not_false, Bool.true_and, Bool.and_true, Bool.false_and, Bool.true_or, Bool.false_or]; rfl) | (simp only [bareF, h4, ht, hl, h1, Bool.not_true, Bool.not_false, Bool.true_and, Bool.and_true, Bool.false_and, Bool.true_or, Bool.false_or]; rfl)⟩, (List.nil_sublist _), (by simp)⟩
   ·
    have h1 : (c.kind == 1) = false := hg20
    refine g_run rfl rfl hg20 ?_
    refine r_fieldb rfl TF.f70_0 TF.sz3 rfl ?_
    refine g_run rfl rfl hg20 ?_
    refine r_load1b 0 rfl rfl rfl TF.agg3 rfl ?_
    refine g_run rfl rfl hg20 ?_
    refine r_cmp rfl rfl rfl rfl ?_
    refine r_pickF rfl hg20 rfl rfl ?_
    refine r_assign rfl rfl ?_
    refine awl_nil ?_
    refine x_then ?_
    refine awp_ret ?_
    exact ⟨(.inl rfl), _, [], (.one (by first | exact .mk rfl rfl | exact .nil rfl)), ⟨rfl, by first | (simp only [bareF, h4, ht, Bool.not_true, Bool.not_false, Bool.true_and, Bool.and_true, Bool.false_and, Bool.and_false]; rfl) | (simp only [bareF, h4, hl, Bool.not_true, Bool.not_false, Bool.true_and, Bool.and_true, Bool.false_and, Bool.true_or]; rfl) | (simp only [bareF, h4, ht, hl, Bool.not_true, Bool.not_false, Bool.true_and, Bool.and_true, Bool.false_and, Bool.true_or]; rfl) | (simp only [bareF, h4, hl, h1, Bool.not_true, Bool.not_false, Bool.true_and, Bool.and_true, Bool.false_and, Bool.true_or, Bool.false_or]; rfl) | (simp only [bareF, h4, ht, hl, h1, Bool.not_true, Bool.not_false, Bool.true_and, Bool.and_true, Bool.false_and, Bool.true_or, Bool.false_or]; rfl)⟩, (List.nil_sublist _), (by simp)⟩
set_option maxHeartbeats 1000000 in
theorem right_ok (d : List FC) (hd0 : d.length ≤ 10000) : AC Tryd.prog 63 [fcsA d] [] (fun r n => n = [] ∧ r = boolA (rightF d)) := by
 refine ac_of_awp (rs := [2]) (nt := 87) Tryd.func63 rfl rfl rfl rfl (fun w0 C0 hq => ?_)
 refine awp_seq ?_
 refine awp_region ?_
 refine r_assign rfl rfl ?_
 refine awl_nil ?_
 refine x_then ?_
 refine awp_seq ?_
 refine awp_region ?_
 refine r_makeMap (ek := Value.string) (ev := boolA) [] rfl rfl (fun b9 => ?_)
 refine r_assign rfl rfl ?_
 refine awl_nil ?_
 refine x_then ?_
 refine awp_seq ?_
 refine awp_seq ?_
 refine awp_region ?_
 refine r_move rfl rfl ?_
 refine r_lenS rfl rfl TF.sl57 rfl ?_
 refine r_move rfl rfl ?_
 refine awl_nil ?_
 refine x_then ?_
 refine awp_block ?_
 refine awp_loop (fun nn0 S => ∃ k : Nat, ∃ m : List (ByteArray × Bool), S = ⟨87, [(0, .a (fcsA d)), (3, .a (.v (.map (some b9)))), (10, .a (fcsA d)), (11, .a (.v (.int .i64 ((d.map FC.cs).length)))), (12, .a (.v (.int .i64 ((k : Int)))))], [⟨b9, true, .map (encM Value.string boolA m)⟩]⟩ ∧ nn0 = d.length - k ∧ (k ≤ d.length) ∧ (∀ i, i < k → okC d i = true) ∧ (((d.take k).flatMap namesC).Nodup) ∧ (HasS m ((d.take k).flatMap namesC))) (d.length - (0)) ⟨87, [(0, .a (fcsA d)), (3, .a (.v (.map (some b9)))), (10, .a (fcsA d)), (11, .a (.v (.int .i64 ((d.map FC.cs).length)))), (12, .a (.v (.int .i64 (((0) : Int)))))], [⟨b9, true, .map (encM Value.string boolA ([]))⟩]⟩ ⟨rfl, (Slots.cons rfl (by first | exact .refl _ | exact .nilOwn _ _ | exact .nilSl _ | exact .ownSl _ _ _  | exact SV.le.of_eq (by simp)) (Slots.cons rfl (by first | exact .refl _ | exact .nilOwn _ _ | exact .nilSl _ | exact .ownSl _ _ _  | exact SV.le.of_eq (by simp)) (Slots.cons rfl (by first | exact .refl _ | exact .nilOwn _ _ | exact .nilSl _ | exact .ownSl _ _ _  | exact SV.le.of_eq (by simp)) (Slots.cons rfl (by first | exact .refl _ | exact .nilOwn _ _ | exact .nilSl _ | exact .ownSl _ _ _  | exact SV.le.of_eq (by simp)) (Slots.cons rfl (by first | exact .refl _ | exact .nilOwn _ _ | exact .nilSl _ | exact .ownSl _ _ _  | exact SV.le.of_eq (by simp)) Slots.nil))))), (by first | exact List.Sublist.refl _ | exact .cons_cons _ (.cons _ (.refl _)) | exact List.nil_sublist _ | exact .cons _ (.refl _) | exact .cons _ (.cons _ (.refl _)) | exact .cons _ (.cons _ (.cons _ (.refl _))) | exact .cons _ (.cons _ (.cons _ (.cons _ (.refl _)))) | exact .cons_cons _ (List.nil_sublist _))⟩ ⟨0, [], rfl, rfl, Nat.zero_le _, (fun i hi => by omega), (by simp), hasS_nil⟩ ?_
 rintro nn0 _ ⟨k, m, rfl, rfl, hk, hall, hnd, hm⟩
 refine awp_seq ?_
 refine awp_region ?_
 refine r_cmp rfl rfl rfl rfl ?_
 refine awl_nil ?_
 refine x_then ?_
 refine awp_seq ?_
 refine awp_cond rfl (fun hc0 => ?_) (fun hc0 => ?_)
 ·
  have hltx : k < d.length := by have := of_decide_eq_true hc0; simpa using this
  obtain ⟨x, hx⟩ := get_lt hltx
  refine awp_skip ?_
  refine x_then ?_
  refine awp_seq ?_
  refine awp_block ?_
  refine awp_seq ?_
  refine awp_region ?_
  refine r_move rfl rfl ?_
  refine r_index rfl rfl rfl TF.sl57 TF.sz70 (by omega) (get_map hx) rfl ?_
  refine r_loadA rfl TF.agg70 TF.sz70 rfl rfl ?_
  refine r_alloc TF.zero70 rfl (fun b5 => ?_)
  refine r_assign rfl rfl ?_
  refine r_store 0 rfl rfl rfl TF.sz70 rfl rfl rfl ?_
  refine awl_nil ?_
  refine x_then ?_
  refine awp_seq ?_
  refine awp_seq ?_
  refine awp_region ?_
  refine r_fieldb rfl TF.f70_0 TF.sz3 rfl ?_
  refine r_load1b 0 rfl rfl rfl TF.agg3 rfl ?_
  refine r_call0 hq rfl rfl (.cons (.ev rfl rfl) .nil) (rank_ok x.kind) rfl TF.en89 rfl (fun r hr => ?_)
  obtain rfl := hr
  refine r_cmp rfl rfl rfl rfl ?_
  refine r_move rfl rfl ?_
  refine g_cases (t' := 21) rfl (fun hg21 => ?_) (fun hg21 => ?_)
  ·
   have hbad : okC d k = false := by simp only [okC, hx, hg21]; rfl
   refine g_skip rfl rfl hg21 rfl ?_
   refine g_skip rfl rfl hg21 rfl ?_
   refine g_skip rfl rfl hg21 rfl ?_
   refine r_pickT rfl hg21 rfl rfl ?_
   refine awl_nil ?_
   refine x_then ?_
   refine awp_condT rfl ?_
   refine awp_seq ?_
   refine awp_region ?_
   refine r_assign rfl rfl ?_
   refine awl_nil ?_
   refine x_then ?_
   refine awp_ret ?_
   refine x_thenR ?_
   refine x_blockR ?_
   refine x_thenR ?_
   refine x_thenR ?_
   refine x_blockR ?_
   refine x_thenR ?_
   exact ⟨(.inl rfl), _, [], (.one (by first | exact .mk rfl rfl | exact .nil rfl)), ⟨rfl, by first | (rw [right_bad hltx hbad]; rfl) | (rw [right_dup hx hs ((hm2 s).1 hc5)]; rfl) | (rw [right_good (fun i hi => hall i (by omega)) hnd]; rfl)⟩, (List.nil_sublist _), (by simp)⟩
  ·
   refine g_run rfl rfl hg21 ?_
   refine r_loadAb 0 rfl rfl TF.agg70 TF.sz70 rfl rfl ?_
   refine g_run rfl rfl hg21 ?_
   refine r_call0 hq rfl rfl (.cons (.ev rfl rfl) .nil) (bare_ok x) rfl TF.en90 rfl (fun r hr => ?_)
   obtain rfl := hr
   refine g_run rfl rfl hg21 ?_
   refine r_not rfl rfl ?_
   refine r_pickF rfl hg21 rfl rfl ?_
   refine awl_nil ?_
   refine x_then ?_
   refine awp_cond rfl (fun hc1 => ?_) (fun hc1 => ?_)
   ·
    have hbad : okC d k = false := by simp only [okC, hx, hg21, show bareF x = false by simpa using hc1]; rfl
    refine awp_seq ?_
    refine awp_region ?_
    refine r_assign rfl rfl ?_
    refine awl_nil ?_
    refine x_then ?_
    refine awp_ret ?_
    refine x_thenR ?_
    refine x_blockR ?_
    refine x_thenR ?_
    refine x_thenR ?_
    refine x_blockR ?_
    refine x_thenR ?_
    exact ⟨(.inl rfl), _, [], (.one (by first | exact .mk rfl rfl | exact .nil rfl)), ⟨rfl, by first | (rw [right_bad hltx hbad]; rfl) | (rw [right_dup hx hs ((hm2 s).1 hc5)]; rfl) | (rw [right_good (fun i hi => hall i (by omega)) hnd]; rfl)⟩, (List.nil_sublist _), (by simp)⟩
   ·
    have hbr : bareF x = true := by simpa using hc1
    refine awp_skip ?_
    refine x_then ?_
    refine awp_seq ?_
    refine awp_seq ?_
    rcases Bool.eq_false_or_eq_true (decide ((k : Int) > 0)) with hg28 | hg28
    ·
     have hk0 : 0 < k := by have := of_decide_eq_true hg28; omega
     obtain ⟨y, hy⟩ := get_lt (show k - 1 < d.length by omega)
     rcases Bool.eq_false_or_eq_true (decide (rankF y.kind > rankF x.kind)) with hg40 | hg40
     ·
      have hbad : okC d k = false := by simp only [okC, hx, hg21, hy, hbr, decide_eq_true hk0, pairF, hg40]; rfl
      refine awp_drawS [26, 27, 28, 29, 30, 31, 32, 33, 34, 35, 36, 37, 38, 39, 40, 41, 42, 43, 44, 45, 46, 47, 48, 49, 50, 51, 52, 53, 54, 55, 56, 57, 58] [_, _, _, _, _, _, _, _, _, _, _, _, _, _, _, _, _, _, _, _, _, _, _, _, _, _, _, _, _, _, _, _, _] [] [] TF.mixed rfl rfl rfl ⟨⟨⟨⟨⟨⟨⟨⟨⟨⟨⟨⟨⟨⟨⟨⟨⟨⟨⟨⟨⟨⟨⟨⟨⟨⟨⟨⟨⟨⟨⟨⟨⟨trivial
       , ⟨_, rfl, fun sl hd hr ho => by
         refine r_move (hr 4 _ rfl rfl rfl) rfl ?_
         exact awl_nil ⟨rfl, post_put⟩⟩⟩
       , ⟨_, rfl, fun sl hd hr ho => by
         refine r_cmp (hd 0 _ rfl rfl rfl) rfl rfl rfl ?_
         exact awl_nil ⟨rfl, post_put⟩⟩⟩
       , ⟨_, rfl, fun sl hd hr ho => by
         refine r_move (hd 1 _ rfl rfl rfl) rfl ?_
         exact awl_nil ⟨rfl, post_put⟩⟩⟩
       , ⟨_, rfl, fun sl hd hr ho => by
         refine g_run rfl (hd 2 _ rfl rfl rfl) hg28 ?_
         refine r_move (hr 0 _ rfl rfl rfl) rfl ?_
         exact awl_nil ⟨rfl, post_put⟩⟩⟩
       , ⟨_, rfl, fun sl hd hr ho => by
         refine g_run rfl (hd 2 _ rfl rfl rfl) hg28 ?_
         refine r_move (hr 4 _ rfl rfl rfl) rfl ?_
         exact awl_nil ⟨rfl, post_put⟩⟩⟩
       , ⟨_, rfl, fun sl hd hr ho => by
         refine g_run rfl (hd 2 _ rfl rfl rfl) hg28 ?_
         refine r_ari _ (hd 4 _ rfl rfl rfl) rfl rfl (wrap_id (by first | omega | (simp; omega))) rfl ?_
         exact awl_nil ⟨rfl, post_put⟩⟩⟩
       , ⟨_, rfl, fun sl hd hr ho => by
         refine g_run rfl (hd 2 _ rfl rfl rfl) hg28 ?_
         refine r_index (hd 3 _ rfl rfl rfl) rfl (hd 5 _ rfl rfl rfl) TF.sl57 TF.sz70 (by omega) (by rw [show ((k : Int) - 1).toNat = k - 1 by omega]; exact get_map hy) rfl ?_
         exact awl_nil ⟨rfl, post_put⟩⟩⟩
       , ⟨_, rfl, fun sl hd hr ho => by
         refine g_run rfl (hd 2 _ rfl rfl rfl) hg28 ?_
         refine r_fieldcp (hd 6 _ rfl rfl rfl) TF.f70_0 TF.sz3 rfl ?_
         exact awl_nil ⟨rfl, post_put⟩⟩⟩
       , ⟨_, rfl, fun sl hd hr ho => by
         refine g_run rfl (hd 2 _ rfl rfl rfl) hg28 ?_
         refine r_load1 (hd 7 _ rfl rfl rfl) TF.agg3 rfl ?_
         exact awl_nil ⟨rfl, post_put⟩⟩⟩
       , ⟨_, rfl, fun sl hd hr ho => by
         refine g_run rfl (hd 2 _ rfl rfl rfl) hg28 ?_
         refine r_call0 hq rfl rfl (.cons (.ev (hd 8 _ rfl rfl rfl) rfl) .nil) (rank_ok y.kind) rfl TF.en89 rfl (fun r hr => ?_)
         obtain rfl := hr
         exact awl_nil ⟨rfl, post_put⟩⟩⟩
       , ⟨_, rfl, fun sl hd hr ho => by
         refine g_run rfl (hd 2 _ rfl rfl rfl) hg28 ?_
         refine r_fieldb (hr 5 _ rfl rfl rfl) TF.f70_0 TF.sz3 rfl ?_
         exact awl_nil ⟨rfl, post_put⟩⟩⟩
       , ⟨_, rfl, fun sl hd hr ho => by
         refine g_run rfl (hd 2 _ rfl rfl rfl) hg28 ?_
         refine r_load1b 0 (hd 10 _ rfl rfl rfl) rfl rfl TF.agg3 rfl ?_
         exact awl_nil ⟨rfl, post_put⟩⟩⟩
       , ⟨_, rfl, fun sl hd hr ho => by
         refine g_run rfl (hd 2 _ rfl rfl rfl) hg28 ?_
         refine r_call0 hq rfl rfl (.cons (.ev (hd 11 _ rfl rfl rfl) rfl) .nil) (rank_ok x.kind) rfl TF.en89 rfl (fun r hr => ?_)
         obtain rfl := hr
         exact awl_nil ⟨rfl, post_put⟩⟩⟩
       , ⟨_, rfl, fun sl hd hr ho => by
         refine g_run rfl (hd 2 _ rfl rfl rfl) hg28 ?_
         refine r_cmp (hd 9 _ rfl rfl rfl) (hd 12 _ rfl rfl rfl) rfl rfl ?_
         exact awl_nil ⟨rfl, post_put⟩⟩⟩
       , ⟨_, rfl, fun sl hd hr ho => by
         refine g_run rfl (hd 2 _ rfl rfl rfl) hg28 ?_
         refine r_move (hd 13 _ rfl rfl rfl) rfl ?_
         exact awl_nil ⟨rfl, post_put⟩⟩⟩
       , ⟨_, rfl, fun sl hd hr ho => by
         refine g_skip rfl (hd 14 _ rfl rfl rfl) hg40 rfl ?_
         exact awl_nil ⟨rfl, post_put⟩⟩⟩
       , ⟨_, rfl, fun sl hd hr ho => by
         refine g_skip rfl (hd 14 _ rfl rfl rfl) hg40 rfl ?_
         exact awl_nil ⟨rfl, post_put⟩⟩⟩
       , ⟨_, rfl, fun sl hd hr ho => by
         refine g_skip rfl (hd 14 _ rfl rfl rfl) hg40 rfl ?_
         exact awl_nil ⟨rfl, post_put⟩⟩⟩
       , ⟨_, rfl, fun sl hd hr ho => by
         refine g_skip rfl (hd 14 _ rfl rfl rfl) hg40 rfl ?_
         exact awl_nil ⟨rfl, post_put⟩⟩⟩
       , ⟨_, rfl, fun sl hd hr ho => by
         refine g_skip rfl (hd 14 _ rfl rfl rfl) hg40 rfl ?_
         exact awl_nil ⟨rfl, post_put⟩⟩⟩
       , ⟨_, rfl, fun sl hd hr ho => by
         refine g_skip rfl (hd 14 _ rfl rfl rfl) hg40 rfl ?_
         exact awl_nil ⟨rfl, post_put⟩⟩⟩
       , ⟨_, rfl, fun sl hd hr ho => by
         refine g_skip rfl (hd 14 _ rfl rfl rfl) hg40 rfl ?_
         exact awl_nil ⟨rfl, post_put⟩⟩⟩
       , ⟨_, rfl, fun sl hd hr ho => by
         refine g_skip rfl (hd 14 _ rfl rfl rfl) hg40 rfl ?_
         exact awl_nil ⟨rfl, post_put⟩⟩⟩
       , ⟨_, rfl, fun sl hd hr ho => by
         refine g_skip rfl (hd 14 _ rfl rfl rfl) hg40 rfl ?_
         exact awl_nil ⟨rfl, post_put⟩⟩⟩
       , ⟨_, rfl, fun sl hd hr ho => by
         refine g_skip rfl (hd 14 _ rfl rfl rfl) hg40 rfl ?_
         exact awl_nil ⟨rfl, post_put⟩⟩⟩
       , ⟨_, rfl, fun sl hd hr ho => by
         refine g_skipU rfl (hd 24 _ rfl rfl rfl) rfl ?_
         exact awl_nil ⟨rfl, post_put⟩⟩⟩
       , ⟨_, rfl, fun sl hd hr ho => by
         refine g_skipU rfl (hd 24 _ rfl rfl rfl) rfl ?_
         exact awl_nil ⟨rfl, post_put⟩⟩⟩
       , ⟨_, rfl, fun sl hd hr ho => by
         refine g_skipU rfl (hd 24 _ rfl rfl rfl) rfl ?_
         exact awl_nil ⟨rfl, post_put⟩⟩⟩
       , ⟨_, rfl, fun sl hd hr ho => by
         refine g_skipU rfl (hd 24 _ rfl rfl rfl) rfl ?_
         exact awl_nil ⟨rfl, post_put⟩⟩⟩
       , ⟨_, rfl, fun sl hd hr ho => by
         refine g_skipU rfl (hd 24 _ rfl rfl rfl) rfl ?_
         exact awl_nil ⟨rfl, post_put⟩⟩⟩
       , ⟨_, rfl, fun sl hd hr ho => by
         refine g_skipU rfl (hd 24 _ rfl rfl rfl) rfl ?_
         exact awl_nil ⟨rfl, post_put⟩⟩⟩
       , ⟨_, rfl, fun sl hd hr ho => by
         refine g_skipU rfl (hd 24 _ rfl rfl rfl) rfl ?_
         exact awl_nil ⟨rfl, post_put⟩⟩⟩
       , ⟨_, rfl, fun sl hd hr ho => by
         refine g_skipU rfl (hd 24 _ rfl rfl rfl) rfl ?_
         exact awl_nil ⟨rfl, post_put⟩⟩⟩
       (by rfl) ?_
      refine g_skipU rfl rfl rfl ?_
      refine g_skip rfl rfl hg40 rfl ?_
      refine g_run rfl rfl hg28 ?_
      refine r_pickT rfl hg40 rfl rfl ?_
      refine r_pickT rfl hg28 rfl rfl ?_
      refine awl_nil ?_
      refine x_then ?_
      refine awp_condT rfl ?_
      refine awp_seq ?_
      refine awp_region ?_
      refine r_assign rfl rfl ?_
      refine awl_nil ?_
      refine x_then ?_
      refine awp_ret ?_
      refine x_thenR ?_
      refine x_blockR ?_
      refine x_thenR ?_
      refine x_thenR ?_
      refine x_blockR ?_
      refine x_thenR ?_
      exact ⟨(.inl rfl), _, [], (.one (by first | exact .mk rfl rfl | exact .nil rfl)), ⟨rfl, by first | (rw [right_bad hltx hbad]; rfl) | (rw [right_dup hx hs ((hm2 s).1 hc5)]; rfl) | (rw [right_good (fun i hi => hall i (by omega)) hnd]; rfl)⟩, (List.nil_sublist _), (by simp)⟩
     ·
      rcases Bool.eq_false_or_eq_true (y.kind == x.kind) with hg50 | hg50
      ·
       refine awp_drawS [26, 27, 28, 29, 30, 31, 32, 33, 34, 35, 36, 37, 38, 39, 40, 41, 42, 43, 44, 45, 46, 47, 48, 49, 50, 51, 52, 53, 54, 55, 56, 57, 58] [_, _, _, _, _, _, _, _, _, _, _, _, _, _, _, _, _, _, _, _, _, _, _, _, _, _, _, _, _, _, _, _, _] [] [] TF.mixed rfl rfl rfl ⟨⟨⟨⟨⟨⟨⟨⟨⟨⟨⟨⟨⟨⟨⟨⟨⟨⟨⟨⟨⟨⟨⟨⟨⟨⟨⟨⟨⟨⟨⟨⟨⟨trivial
        , ⟨_, rfl, fun sl hd hr ho => by
          refine r_move (hr 4 _ rfl rfl rfl) rfl ?_
          exact awl_nil ⟨rfl, post_put⟩⟩⟩
        , ⟨_, rfl, fun sl hd hr ho => by
          refine r_cmp (hd 0 _ rfl rfl rfl) rfl rfl rfl ?_
          exact awl_nil ⟨rfl, post_put⟩⟩⟩
        , ⟨_, rfl, fun sl hd hr ho => by
          refine r_move (hd 1 _ rfl rfl rfl) rfl ?_
          exact awl_nil ⟨rfl, post_put⟩⟩⟩
        , ⟨_, rfl, fun sl hd hr ho => by
          refine g_run rfl (hd 2 _ rfl rfl rfl) hg28 ?_
          refine r_move (hr 0 _ rfl rfl rfl) rfl ?_
          exact awl_nil ⟨rfl, post_put⟩⟩⟩
        , ⟨_, rfl, fun sl hd hr ho => by
          refine g_run rfl (hd 2 _ rfl rfl rfl) hg28 ?_
          refine r_move (hr 4 _ rfl rfl rfl) rfl ?_
          exact awl_nil ⟨rfl, post_put⟩⟩⟩
        , ⟨_, rfl, fun sl hd hr ho => by
          refine g_run rfl (hd 2 _ rfl rfl rfl) hg28 ?_
          refine r_ari _ (hd 4 _ rfl rfl rfl) rfl rfl (wrap_id (by first | omega | (simp; omega))) rfl ?_
          exact awl_nil ⟨rfl, post_put⟩⟩⟩
        , ⟨_, rfl, fun sl hd hr ho => by
          refine g_run rfl (hd 2 _ rfl rfl rfl) hg28 ?_
          refine r_index (hd 3 _ rfl rfl rfl) rfl (hd 5 _ rfl rfl rfl) TF.sl57 TF.sz70 (by omega) (by rw [show ((k : Int) - 1).toNat = k - 1 by omega]; exact get_map hy) rfl ?_
          exact awl_nil ⟨rfl, post_put⟩⟩⟩
        , ⟨_, rfl, fun sl hd hr ho => by
          refine g_run rfl (hd 2 _ rfl rfl rfl) hg28 ?_
          refine r_fieldcp (hd 6 _ rfl rfl rfl) TF.f70_0 TF.sz3 rfl ?_
          exact awl_nil ⟨rfl, post_put⟩⟩⟩
        , ⟨_, rfl, fun sl hd hr ho => by
          refine g_run rfl (hd 2 _ rfl rfl rfl) hg28 ?_
          refine r_load1 (hd 7 _ rfl rfl rfl) TF.agg3 rfl ?_
          exact awl_nil ⟨rfl, post_put⟩⟩⟩
        , ⟨_, rfl, fun sl hd hr ho => by
          refine g_run rfl (hd 2 _ rfl rfl rfl) hg28 ?_
          refine r_call0 hq rfl rfl (.cons (.ev (hd 8 _ rfl rfl rfl) rfl) .nil) (rank_ok y.kind) rfl TF.en89 rfl (fun r hr => ?_)
          obtain rfl := hr
          exact awl_nil ⟨rfl, post_put⟩⟩⟩
        , ⟨_, rfl, fun sl hd hr ho => by
          refine g_run rfl (hd 2 _ rfl rfl rfl) hg28 ?_
          refine r_fieldb (hr 5 _ rfl rfl rfl) TF.f70_0 TF.sz3 rfl ?_
          exact awl_nil ⟨rfl, post_put⟩⟩⟩
        , ⟨_, rfl, fun sl hd hr ho => by
          refine g_run rfl (hd 2 _ rfl rfl rfl) hg28 ?_
          refine r_load1b 0 (hd 10 _ rfl rfl rfl) rfl rfl TF.agg3 rfl ?_
          exact awl_nil ⟨rfl, post_put⟩⟩⟩
        , ⟨_, rfl, fun sl hd hr ho => by
          refine g_run rfl (hd 2 _ rfl rfl rfl) hg28 ?_
          refine r_call0 hq rfl rfl (.cons (.ev (hd 11 _ rfl rfl rfl) rfl) .nil) (rank_ok x.kind) rfl TF.en89 rfl (fun r hr => ?_)
          obtain rfl := hr
          exact awl_nil ⟨rfl, post_put⟩⟩⟩
        , ⟨_, rfl, fun sl hd hr ho => by
          refine g_run rfl (hd 2 _ rfl rfl rfl) hg28 ?_
          refine r_cmp (hd 9 _ rfl rfl rfl) (hd 12 _ rfl rfl rfl) rfl rfl ?_
          exact awl_nil ⟨rfl, post_put⟩⟩⟩
        , ⟨_, rfl, fun sl hd hr ho => by
          refine g_run rfl (hd 2 _ rfl rfl rfl) hg28 ?_
          refine r_move (hd 13 _ rfl rfl rfl) rfl ?_
          exact awl_nil ⟨rfl, post_put⟩⟩⟩
        , ⟨_, rfl, fun sl hd hr ho => by
          refine g_run rfl (hd 14 _ rfl rfl rfl) hg40 ?_
          refine r_move (hr 0 _ rfl rfl rfl) rfl ?_
          exact awl_nil ⟨rfl, post_put⟩⟩⟩
        , ⟨_, rfl, fun sl hd hr ho => by
          refine g_run rfl (hd 14 _ rfl rfl rfl) hg40 ?_
          refine r_move (hr 4 _ rfl rfl rfl) rfl ?_
          exact awl_nil ⟨rfl, post_put⟩⟩⟩
        , ⟨_, rfl, fun sl hd hr ho => by
          refine g_run rfl (hd 14 _ rfl rfl rfl) hg40 ?_
          refine r_ari _ (hd 16 _ rfl rfl rfl) rfl rfl (wrap_id (by first | omega | (simp; omega))) rfl ?_
          exact awl_nil ⟨rfl, post_put⟩⟩⟩
        , ⟨_, rfl, fun sl hd hr ho => by
          refine g_run rfl (hd 14 _ rfl rfl rfl) hg40 ?_
          refine r_index (hd 15 _ rfl rfl rfl) rfl (hd 17 _ rfl rfl rfl) TF.sl57 TF.sz70 (by omega) (by rw [show ((k : Int) - 1).toNat = k - 1 by omega]; exact get_map hy) rfl ?_
          exact awl_nil ⟨rfl, post_put⟩⟩⟩
        , ⟨_, rfl, fun sl hd hr ho => by
          refine g_run rfl (hd 14 _ rfl rfl rfl) hg40 ?_
          refine r_fieldcp (hd 18 _ rfl rfl rfl) TF.f70_0 TF.sz3 rfl ?_
          exact awl_nil ⟨rfl, post_put⟩⟩⟩
        , ⟨_, rfl, fun sl hd hr ho => by
          refine g_run rfl (hd 14 _ rfl rfl rfl) hg40 ?_
          refine r_load1 (hd 19 _ rfl rfl rfl) TF.agg3 rfl ?_
          exact awl_nil ⟨rfl, post_put⟩⟩⟩
        , ⟨_, rfl, fun sl hd hr ho => by
          refine g_run rfl (hd 14 _ rfl rfl rfl) hg40 ?_
          refine r_fieldb (hr 5 _ rfl rfl rfl) TF.f70_0 TF.sz3 rfl ?_
          exact awl_nil ⟨rfl, post_put⟩⟩⟩
        , ⟨_, rfl, fun sl hd hr ho => by
          refine g_run rfl (hd 14 _ rfl rfl rfl) hg40 ?_
          refine r_load1b 0 (hd 21 _ rfl rfl rfl) rfl rfl TF.agg3 rfl ?_
          exact awl_nil ⟨rfl, post_put⟩⟩⟩
        , ⟨_, rfl, fun sl hd hr ho => by
          refine g_run rfl (hd 14 _ rfl rfl rfl) hg40 ?_
          refine r_cmp (hd 20 _ rfl rfl rfl) (hd 22 _ rfl rfl rfl) rfl rfl ?_
          exact awl_nil ⟨rfl, post_put⟩⟩⟩
        , ⟨_, rfl, fun sl hd hr ho => by
          refine g_run rfl (hd 14 _ rfl rfl rfl) hg40 ?_
          refine r_move (hd 23 _ rfl rfl rfl) rfl ?_
          exact awl_nil ⟨rfl, post_put⟩⟩⟩
        , ⟨_, rfl, fun sl hd hr ho => by
          refine g_run rfl (hd 24 _ rfl rfl rfl) hg50 ?_
          refine r_move (hr 0 _ rfl rfl rfl) rfl ?_
          exact awl_nil ⟨rfl, post_put⟩⟩⟩
        , ⟨_, rfl, fun sl hd hr ho => by
          refine g_run rfl (hd 24 _ rfl rfl rfl) hg50 ?_
          refine r_move (hr 4 _ rfl rfl rfl) rfl ?_
          exact awl_nil ⟨rfl, post_put⟩⟩⟩
        , ⟨_, rfl, fun sl hd hr ho => by
          refine g_run rfl (hd 24 _ rfl rfl rfl) hg50 ?_
          refine r_ari _ (hd 26 _ rfl rfl rfl) rfl rfl (wrap_id (by first | omega | (simp; omega))) rfl ?_
          exact awl_nil ⟨rfl, post_put⟩⟩⟩
        , ⟨_, rfl, fun sl hd hr ho => by
          refine g_run rfl (hd 24 _ rfl rfl rfl) hg50 ?_
          refine r_index (hd 25 _ rfl rfl rfl) rfl (hd 27 _ rfl rfl rfl) TF.sl57 TF.sz70 (by omega) (by rw [show ((k : Int) - 1).toNat = k - 1 by omega]; exact get_map hy) rfl ?_
          exact awl_nil ⟨rfl, post_put⟩⟩⟩
        , ⟨_, rfl, fun sl hd hr ho => by
          refine g_run rfl (hd 24 _ rfl rfl rfl) hg50 ?_
          refine r_fieldcp (hd 28 _ rfl rfl rfl) TF.f70_1 TF.sz9 rfl ?_
          exact awl_nil ⟨rfl, post_put⟩⟩⟩
        , ⟨_, rfl, fun sl hd hr ho => by
          refine g_run rfl (hd 24 _ rfl rfl rfl) hg50 ?_
          refine r_load1 (hd 29 _ rfl rfl rfl) TF.agg9 rfl ?_
          exact awl_nil ⟨rfl, post_put⟩⟩⟩
        , ⟨_, rfl, fun sl hd hr ho => by
          refine g_run rfl (hd 24 _ rfl rfl rfl) hg50 ?_
          refine r_fieldb (hr 5 _ rfl rfl rfl) TF.f70_1 TF.sz9 rfl ?_
          exact awl_nil ⟨rfl, post_put⟩⟩⟩
        , ⟨_, rfl, fun sl hd hr ho => by
          refine g_run rfl (hd 24 _ rfl rfl rfl) hg50 ?_
          refine r_load1b 0 (hd 31 _ rfl rfl rfl) rfl rfl TF.agg9 rfl ?_
          exact awl_nil ⟨rfl, post_put⟩⟩⟩
        (by rfl) ?_
       refine g_run rfl rfl hg50 ?_
       refine r_str2 rfl rfl rfl rfl ?_
       refine g_run rfl rfl hg40 ?_
       refine r_pickT rfl hg50 rfl rfl ?_
       refine g_run rfl rfl hg28 ?_
       refine r_pickF rfl hg40 rfl rfl ?_
       refine r_pickT rfl hg28 rfl rfl ?_
       refine awl_nil ?_
       refine x_then ?_
       refine awp_cond rfl (fun hc2 => ?_) (fun hc2 => ?_)
       ·
        have hbad : okC d k = false := by simp only [okC, hx, hg21, hy, hbr, decide_eq_true hk0, pairF, hg40, hg50, hc2]; rfl
        refine awp_seq ?_
        refine awp_region ?_
        refine r_assign rfl rfl ?_
        refine awl_nil ?_
        refine x_then ?_
        refine awp_ret ?_
        refine x_thenR ?_
        refine x_blockR ?_
        refine x_thenR ?_
        refine x_thenR ?_
        refine x_blockR ?_
        refine x_thenR ?_
        exact ⟨(.inl rfl), _, [], (.one (by first | exact .mk rfl rfl | exact .nil rfl)), ⟨rfl, by first | (rw [right_bad hltx hbad]; rfl) | (rw [right_dup hx hs ((hm2 s).1 hc5)]; rfl) | (rw [right_good (fun i hi => hall i (by omega)) hnd]; rfl)⟩, (List.nil_sublist _), (by simp)⟩
       ·
        have hgood : okC d k = true := by simp only [okC, hx, hg21, hy, hbr, decide_eq_true hk0, pairF, hg40, hg50, hc2]; rfl
        refine awp_skip ?_
        refine x_then ?_
        refine awp_seq ?_
        refine awp_region ?_
        refine r_fieldb rfl TF.f70_1 TF.sz9 rfl ?_
        refine r_load1b 0 rfl rfl rfl TF.agg9 rfl ?_
        refine r_lit 65 (parts := [(0, .tmp 64)]) rfl TF.sl54 TF.sz9 TF.zraw9 rfl rfl rfl rfl rfl rfl rfl ?_
        refine r_assign rfl rfl ?_
        refine awl_nil ?_
        refine x_then ?_
        refine awp_seq ?_
        refine awp_seq ?_
        refine awp_region ?_
        refine r_fieldb rfl TF.f70_0 TF.sz3 rfl ?_
        refine r_load1b 0 rfl rfl rfl TF.agg3 rfl ?_
        refine r_cmp rfl rfl rfl rfl ?_
        refine awl_nil ?_
        refine x_then ?_
        refine awp_cond rfl (fun hc3 => ?_) (fun hc3 => ?_)
        ·
         have hns : namesC x = [x.name, x.to] := by simp [namesC, (eq_of_beq hc3 : x.kind = 4)]
         have hnsl : (namesC x).length ≤ 2 := by rw [hns]; simp
         refine awp_region ?_
         refine r_move rfl rfl ?_
         refine r_fieldb rfl TF.f70_2 TF.sz9 rfl ?_
         refine r_load1b 0 rfl rfl rfl TF.agg9 rfl ?_
         refine r_lit 72 (parts := [(0, .tmp 71)]) rfl TF.sl54 TF.sz9 TF.zraw9 rfl rfl rfl rfl rfl rfl rfl ?_
         refine r_append 65 rfl (by first | exact .own _ | exact .nil) rfl (by first | exact .sl _ | exact .own _ _ | exact .nil) TF.sl54 TF.sz9 (by decide) TF.by9 TF.zlen9 (by simp [chunks] <;> omega) (by simp [chunks] <;> omega) rfl ?_
         refine r_assign rfl rfl ?_
         refine awl_nil ?_
         refine x_then ?_
         refine awp_seq ?_
         refine awp_region ?_
         refine r_move rfl rfl ?_
         refine r_lenS rfl rfl TF.sl54 rfl ?_
         refine r_move rfl rfl ?_
         refine awl_nil ?_
         refine x_then ?_
         refine awp_block ?_
         refine awp_loop (fun nn0 S => ∃ j : Nat, ∃ m2 : List (ByteArray × Bool), S = ⟨87, [(0, .a (fcsA d)), (3, .a (.v (.map (some b9)))), (10, .a (fcsA d)), (11, .a (.v (.int .i64 ((d.map FC.cs).length)))), (12, .a (.v (.int .i64 ((k : Int))))), (74, .a (strsA (namesC x))), (75, .a (.v (.int .i64 (((namesC x).map (fun s : ByteArray => [AV.v (.string s)])).length)))), (76, .a (.v (.int .i64 ((j : Int)))))], [⟨b9, true, .map (encM Value.string boolA m2)⟩]⟩ ∧ nn0 = (namesC x).length - j ∧ (j ≤ (namesC x).length) ∧ (((d.take k).flatMap namesC ++ (namesC x).take j).Nodup) ∧ (HasS m2 ((d.take k).flatMap namesC ++ (namesC x).take j))) ((namesC x).length - (0)) ⟨87, [(0, .a (fcsA d)), (3, .a (.v (.map (some b9)))), (10, .a (fcsA d)), (11, .a (.v (.int .i64 ((d.map FC.cs).length)))), (12, .a (.v (.int .i64 ((k : Int))))), (74, .a (strsA (namesC x))), (75, .a (.v (.int .i64 (((namesC x).map (fun s : ByteArray => [AV.v (.string s)])).length)))), (76, .a (.v (.int .i64 (((0) : Int)))))], [⟨b9, true, .map (encM Value.string boolA (m))⟩]⟩ ⟨rfl, (Slots.cons rfl (by first | exact .refl _ | exact .nilOwn _ _ | exact .nilSl _ | exact .ownSl _ _ _  | exact SV.le.ownEq (by first | rfl | (rw [hns]; rfl) | (rw [hns]; simp [chunks])) | exact SV.le.of_eq (by first | rfl | (rw [hns]; rfl) | (rw [hns]; simp [chunks]))) (Slots.cons rfl (by first | exact .refl _ | exact .nilOwn _ _ | exact .nilSl _ | exact .ownSl _ _ _  | exact SV.le.ownEq (by first | rfl | (rw [hns]; rfl) | (rw [hns]; simp [chunks])) | exact SV.le.of_eq (by first | rfl | (rw [hns]; rfl) | (rw [hns]; simp [chunks]))) (Slots.cons rfl (by first | exact .refl _ | exact .nilOwn _ _ | exact .nilSl _ | exact .ownSl _ _ _  | exact SV.le.ownEq (by first | rfl | (rw [hns]; rfl) | (rw [hns]; simp [chunks])) | exact SV.le.of_eq (by first | rfl | (rw [hns]; rfl) | (rw [hns]; simp [chunks]))) (Slots.cons rfl (by first | exact .refl _ | exact .nilOwn _ _ | exact .nilSl _ | exact .ownSl _ _ _  | exact SV.le.ownEq (by first | rfl | (rw [hns]; rfl) | (rw [hns]; simp [chunks])) | exact SV.le.of_eq (by first | rfl | (rw [hns]; rfl) | (rw [hns]; simp [chunks]))) (Slots.cons rfl (by first | exact .refl _ | exact .nilOwn _ _ | exact .nilSl _ | exact .ownSl _ _ _  | exact SV.le.ownEq (by first | rfl | (rw [hns]; rfl) | (rw [hns]; simp [chunks])) | exact SV.le.of_eq (by first | rfl | (rw [hns]; rfl) | (rw [hns]; simp [chunks]))) (Slots.cons rfl (by first | exact .refl _ | exact .nilOwn _ _ | exact .nilSl _ | exact .ownSl _ _ _  | exact SV.le.ownEq (by first | rfl | (rw [hns]; rfl) | (rw [hns]; simp [chunks])) | exact SV.le.of_eq (by first | rfl | (rw [hns]; rfl) | (rw [hns]; simp [chunks]))) (Slots.cons rfl (by first | exact .refl _ | exact .nilOwn _ _ | exact .nilSl _ | exact .ownSl _ _ _  | exact SV.le.ownEq (by first | rfl | (rw [hns]; rfl) | (rw [hns]; simp [chunks])) | exact SV.le.of_eq (by first | rfl | (rw [hns]; rfl) | (rw [hns]; simp [chunks]))) (Slots.cons rfl (by first | exact .refl _ | exact .nilOwn _ _ | exact .nilSl _ | exact .ownSl _ _ _  | exact SV.le.ownEq (by first | rfl | (rw [hns]; rfl) | (rw [hns]; simp [chunks])) | exact SV.le.of_eq (by first | rfl | (rw [hns]; rfl) | (rw [hns]; simp [chunks]))) Slots.nil)))))))), (by first | exact List.Sublist.refl _ | exact .cons_cons _ (.cons _ (.refl _)) | exact List.nil_sublist _ | exact .cons _ (.refl _) | exact .cons _ (.cons _ (.refl _)) | exact .cons _ (.cons _ (.cons _ (.refl _))) | exact .cons _ (.cons _ (.cons _ (.cons _ (.refl _)))) | exact .cons_cons _ (List.nil_sublist _))⟩ ⟨0, m, rfl, rfl, Nat.zero_le _, (by simpa using hnd), (by simpa using hm)⟩ ?_
         rintro nn0 _ ⟨j, m2, rfl, rfl, hj, hn2, hm2⟩
         refine awp_seq ?_
         refine awp_region ?_
         refine r_cmp rfl rfl rfl rfl ?_
         refine awl_nil ?_
         refine x_then ?_
         refine awp_seq ?_
         refine awp_cond rfl (fun hc4 => ?_) (fun hc4 => ?_)
         ·
          have hlts : j < (namesC x).length := by have := of_decide_eq_true hc4; rw [List.length_map] at this; omega
          obtain ⟨s, hs⟩ := get_lt hlts
          refine awp_skip ?_
          refine x_then ?_
          refine awp_seq ?_
          refine awp_block ?_
          refine awp_seq ?_
          refine awp_region ?_
          refine r_index rfl rfl rfl TF.sl54 TF.sz9 (by omega) (get_map hs) rfl ?_
          refine r_load1 rfl TF.agg9 rfl ?_
          refine r_assign rfl rfl ?_
          refine awl_nil ?_
          refine x_then ?_
          refine awp_seq ?_
          refine awp_seq ?_
          refine awp_region ?_
          refine r_move rfl rfl ?_
          refine r_move rfl rfl ?_
          refine r_lookup 0 (keyEnc_string TF.un9) (ev := boolA) false rfl rfl rfl TF.map100 TF.zav4 rfl ?_
          refine awl_nil ?_
          refine x_then ?_
          refine awp_cond rfl (fun hc5 => ?_) (fun hc5 => ?_)
          ·
           refine awp_seq ?_
           refine awp_region ?_
           refine r_assign rfl rfl ?_
           refine awl_nil ?_
           refine x_then ?_
           refine awp_ret ?_
           refine x_thenR ?_
           refine x_blockR ?_
           refine x_thenR ?_
           refine x_thenR ?_
           refine x_blockR ?_
           refine x_blockR ?_
           refine x_thenR ?_
           refine x_thenR ?_
           refine x_blockR ?_
           refine x_thenR ?_
           exact ⟨(.inl rfl), _, [], (.one (by first | exact .mk rfl rfl | exact .nil rfl)), ⟨rfl, by first | (rw [right_bad hltx hbad]; rfl) | (rw [right_dup hx hs ((hm2 s).1 hc5)]; rfl) | (rw [right_good (fun i hi => hall i (by omega)) hnd]; rfl)⟩, (List.nil_sublist _), (by simp)⟩
          ·
           refine awp_skip ?_
           refine x_then ?_
           refine awp_region ?_
           refine r_move rfl rfl ?_
           refine r_move rfl rfl ?_
           refine r_mapUpdate 0 (keyEnc_string TF.un9) (ev := boolA) true rfl rfl rfl rfl rfl TF.map100 ?_
           refine awl_nil ?_
           refine x_block ?_
           refine x_then ?_
           refine awp_region ?_
           refine r_ari _ rfl rfl rfl (wrap_id (by first | omega | (simp; omega))) rfl ?_
           refine r_move rfl rfl ?_
           refine awl_nil ?_
           refine x_then ?_
           refine ⟨(namesC x).length - (j + 1), ⟨87, [(0, .a (fcsA d)), (3, .a (.v (.map (some b9)))), (10, .a (fcsA d)), (11, .a (.v (.int .i64 ((d.map FC.cs).length)))), (12, .a (.v (.int .i64 ((k : Int))))), (74, .a (strsA (namesC x))), (75, .a (.v (.int .i64 (((namesC x).map (fun s : ByteArray => [AV.v (.string s)])).length)))), (76, .a (.v (.int .i64 (((j + 1) : Int)))))], [⟨b9, true, .map (encM Value.string boolA ((mset m2 s true)))⟩]⟩, ⟨rfl, (Slots.cons rfl (by first | exact .refl _ | exact .nilOwn _ _ | exact .nilSl _ | exact .ownSl _ _ _  | exact SV.le.of_eq (by simp)) (Slots.cons rfl (by first | exact .refl _ | exact .nilOwn _ _ | exact .nilSl _ | exact .ownSl _ _ _  | exact SV.le.of_eq (by simp)) (Slots.cons rfl (by first | exact .refl _ | exact .nilOwn _ _ | exact .nilSl _ | exact .ownSl _ _ _  | exact SV.le.of_eq (by simp)) (Slots.cons rfl (by first | exact .refl _ | exact .nilOwn _ _ | exact .nilSl _ | exact .ownSl _ _ _  | exact SV.le.of_eq (by simp)) (Slots.cons rfl (by first | exact .refl _ | exact .nilOwn _ _ | exact .nilSl _ | exact .ownSl _ _ _  | exact SV.le.of_eq (by simp)) (Slots.cons rfl (by first | exact .refl _ | exact .nilOwn _ _ | exact .nilSl _ | exact .ownSl _ _ _  | exact SV.le.of_eq (by simp)) (Slots.cons rfl (by first | exact .refl _ | exact .nilOwn _ _ | exact .nilSl _ | exact .ownSl _ _ _  | exact SV.le.of_eq (by simp)) (Slots.cons rfl (by first | exact .refl _ | exact .nilOwn _ _ | exact .nilSl _ | exact .ownSl _ _ _  | exact SV.le.of_eq (by simp)) Slots.nil)))))))), (by first | exact List.Sublist.refl _ | exact .cons_cons _ (.cons _ (.refl _)) | exact List.nil_sublist _ | exact .cons _ (.refl _) | exact .cons _ (.cons _ (.refl _)) | exact .cons _ (.cons _ (.cons _ (.refl _))) | exact .cons _ (.cons _ (.cons _ (.cons _ (.refl _)))) | exact .cons_cons _ (List.nil_sublist _))⟩, (by omega), ⟨j + 1, (mset m2 s true), rfl, rfl, (by omega), (by rw [takeS hs, ← List.append_assoc]; exact nodup_snoc hn2 (fun h => by rw [(hm2 s).2 h] at hc5; cases hc5)), (by rw [takeS hs, ← List.append_assoc]; exact hasS_set hm2)⟩⟩
         ·
          have hge : (namesC x).length ≤ j := by have := of_decide_eq_false hc4; rw [List.length_map] at this; omega
          rw [List.take_of_length_le hge, ← names_take hx] at hn2 hm2
          refine awp_exit ?_
          refine x_thenE ?_
          refine x_thenE ?_
          refine x_blockE ?_
          refine x_block ?_
          refine x_then ?_
          refine awp_region ?_
          refine r_ari _ rfl rfl rfl (wrap_id (by first | omega | (simp; omega))) rfl ?_
          refine r_move rfl rfl ?_
          refine awl_nil ?_
          refine x_then ?_
          refine ⟨d.length - (k + 1), ⟨87, [(0, .a (fcsA d)), (3, .a (.v (.map (some b9)))), (10, .a (fcsA d)), (11, .a (.v (.int .i64 ((d.map FC.cs).length)))), (12, .a (.v (.int .i64 (((k + 1) : Int)))))], [⟨b9, true, .map (encM Value.string boolA (m2))⟩]⟩, ⟨rfl, (Slots.cons rfl (by first | exact .refl _ | exact .nilOwn _ _ | exact .nilSl _ | exact .ownSl _ _ _  | exact SV.le.of_eq (by simp)) (Slots.cons rfl (by first | exact .refl _ | exact .nilOwn _ _ | exact .nilSl _ | exact .ownSl _ _ _  | exact SV.le.of_eq (by simp)) (Slots.cons rfl (by first | exact .refl _ | exact .nilOwn _ _ | exact .nilSl _ | exact .ownSl _ _ _  | exact SV.le.of_eq (by simp)) (Slots.cons rfl (by first | exact .refl _ | exact .nilOwn _ _ | exact .nilSl _ | exact .ownSl _ _ _  | exact SV.le.of_eq (by simp)) (Slots.cons rfl (by first | exact .refl _ | exact .nilOwn _ _ | exact .nilSl _ | exact .ownSl _ _ _  | exact SV.le.of_eq (by simp)) Slots.nil))))), (by first | exact List.Sublist.refl _ | exact .cons_cons _ (.cons _ (.refl _)) | exact List.nil_sublist _ | exact .cons _ (.refl _) | exact .cons _ (.cons _ (.refl _)) | exact .cons _ (.cons _ (.cons _ (.refl _))) | exact .cons _ (.cons _ (.cons _ (.cons _ (.refl _)))) | exact .cons_cons _ (List.nil_sublist _))⟩, (by omega), ⟨k + 1, m2, rfl, rfl, (by omega), (fun i hi => by rcases Nat.lt_succ_iff_lt_or_eq.1 hi with h | rfl; exact hall i h; exact hgood), hn2, hm2⟩⟩
        ·
         have hns : namesC x = [x.name] := by simp [namesC, (by simpa using hc3 : ¬ x.kind = 4)]
         have hnsl : (namesC x).length ≤ 2 := by rw [hns]; simp
         refine awp_skip ?_
         refine x_then ?_
         refine awp_seq ?_
         refine awp_region ?_
         refine r_move rfl rfl ?_
         refine r_lenS rfl rfl TF.sl54 rfl ?_
         refine r_move rfl rfl ?_
         refine awl_nil ?_
         refine x_then ?_
         refine awp_block ?_
         refine awp_loop (fun nn0 S => ∃ j : Nat, ∃ m2 : List (ByteArray × Bool), S = ⟨87, [(0, .a (fcsA d)), (3, .a (.v (.map (some b9)))), (10, .a (fcsA d)), (11, .a (.v (.int .i64 ((d.map FC.cs).length)))), (12, .a (.v (.int .i64 ((k : Int))))), (74, .a (strsA (namesC x))), (75, .a (.v (.int .i64 (((namesC x).map (fun s : ByteArray => [AV.v (.string s)])).length)))), (76, .a (.v (.int .i64 ((j : Int)))))], [⟨b9, true, .map (encM Value.string boolA m2)⟩]⟩ ∧ nn0 = (namesC x).length - j ∧ (j ≤ (namesC x).length) ∧ (((d.take k).flatMap namesC ++ (namesC x).take j).Nodup) ∧ (HasS m2 ((d.take k).flatMap namesC ++ (namesC x).take j))) ((namesC x).length - (0)) ⟨87, [(0, .a (fcsA d)), (3, .a (.v (.map (some b9)))), (10, .a (fcsA d)), (11, .a (.v (.int .i64 ((d.map FC.cs).length)))), (12, .a (.v (.int .i64 ((k : Int))))), (74, .a (strsA (namesC x))), (75, .a (.v (.int .i64 (((namesC x).map (fun s : ByteArray => [AV.v (.string s)])).length)))), (76, .a (.v (.int .i64 (((0) : Int)))))], [⟨b9, true, .map (encM Value.string boolA (m))⟩]⟩ ⟨rfl, (Slots.cons rfl (by first | exact .refl _ | exact .nilOwn _ _ | exact .nilSl _ | exact .ownSl _ _ _  | exact SV.le.ownEq (by first | rfl | (rw [hns]; rfl) | (rw [hns]; simp [chunks])) | exact SV.le.of_eq (by first | rfl | (rw [hns]; rfl) | (rw [hns]; simp [chunks]))) (Slots.cons rfl (by first | exact .refl _ | exact .nilOwn _ _ | exact .nilSl _ | exact .ownSl _ _ _  | exact SV.le.ownEq (by first | rfl | (rw [hns]; rfl) | (rw [hns]; simp [chunks])) | exact SV.le.of_eq (by first | rfl | (rw [hns]; rfl) | (rw [hns]; simp [chunks]))) (Slots.cons rfl (by first | exact .refl _ | exact .nilOwn _ _ | exact .nilSl _ | exact .ownSl _ _ _  | exact SV.le.ownEq (by first | rfl | (rw [hns]; rfl) | (rw [hns]; simp [chunks])) | exact SV.le.of_eq (by first | rfl | (rw [hns]; rfl) | (rw [hns]; simp [chunks]))) (Slots.cons rfl (by first | exact .refl _ | exact .nilOwn _ _ | exact .nilSl _ | exact .ownSl _ _ _  | exact SV.le.ownEq (by first | rfl | (rw [hns]; rfl) | (rw [hns]; simp [chunks])) | exact SV.le.of_eq (by first | rfl | (rw [hns]; rfl) | (rw [hns]; simp [chunks]))) (Slots.cons rfl (by first | exact .refl _ | exact .nilOwn _ _ | exact .nilSl _ | exact .ownSl _ _ _  | exact SV.le.ownEq (by first | rfl | (rw [hns]; rfl) | (rw [hns]; simp [chunks])) | exact SV.le.of_eq (by first | rfl | (rw [hns]; rfl) | (rw [hns]; simp [chunks]))) (Slots.cons rfl (by first | exact .refl _ | exact .nilOwn _ _ | exact .nilSl _ | exact .ownSl _ _ _  | exact SV.le.ownEq (by first | rfl | (rw [hns]; rfl) | (rw [hns]; simp [chunks])) | exact SV.le.of_eq (by first | rfl | (rw [hns]; rfl) | (rw [hns]; simp [chunks]))) (Slots.cons rfl (by first | exact .refl _ | exact .nilOwn _ _ | exact .nilSl _ | exact .ownSl _ _ _  | exact SV.le.ownEq (by first | rfl | (rw [hns]; rfl) | (rw [hns]; simp [chunks])) | exact SV.le.of_eq (by first | rfl | (rw [hns]; rfl) | (rw [hns]; simp [chunks]))) (Slots.cons rfl (by first | exact .refl _ | exact .nilOwn _ _ | exact .nilSl _ | exact .ownSl _ _ _  | exact SV.le.ownEq (by first | rfl | (rw [hns]; rfl) | (rw [hns]; simp [chunks])) | exact SV.le.of_eq (by first | rfl | (rw [hns]; rfl) | (rw [hns]; simp [chunks]))) Slots.nil)))))))), (by first | exact List.Sublist.refl _ | exact .cons_cons _ (.cons _ (.refl _)) | exact List.nil_sublist _ | exact .cons _ (.refl _) | exact .cons _ (.cons _ (.refl _)) | exact .cons _ (.cons _ (.cons _ (.refl _))) | exact .cons _ (.cons _ (.cons _ (.cons _ (.refl _)))) | exact .cons_cons _ (List.nil_sublist _))⟩ ⟨0, m, rfl, rfl, Nat.zero_le _, (by simpa using hnd), (by simpa using hm)⟩ ?_
         rintro nn0 _ ⟨j, m2, rfl, rfl, hj, hn2, hm2⟩
         refine awp_seq ?_
         refine awp_region ?_
         refine r_cmp rfl rfl rfl rfl ?_
         refine awl_nil ?_
         refine x_then ?_
         refine awp_seq ?_
         refine awp_cond rfl (fun hc4 => ?_) (fun hc4 => ?_)
         ·
          have hlts : j < (namesC x).length := by have := of_decide_eq_true hc4; rw [List.length_map] at this; omega
          obtain ⟨s, hs⟩ := get_lt hlts
          refine awp_skip ?_
          refine x_then ?_
          refine awp_seq ?_
          refine awp_block ?_
          refine awp_seq ?_
          refine awp_region ?_
          refine r_index rfl rfl rfl TF.sl54 TF.sz9 (by omega) (get_map hs) rfl ?_
          refine r_load1 rfl TF.agg9 rfl ?_
          refine r_assign rfl rfl ?_
          refine awl_nil ?_
          refine x_then ?_
          refine awp_seq ?_
          refine awp_seq ?_
          refine awp_region ?_
          refine r_move rfl rfl ?_
          refine r_move rfl rfl ?_
          refine r_lookup 0 (keyEnc_string TF.un9) (ev := boolA) false rfl rfl rfl TF.map100 TF.zav4 rfl ?_
          refine awl_nil ?_
          refine x_then ?_
          refine awp_cond rfl (fun hc5 => ?_) (fun hc5 => ?_)
          ·
           refine awp_seq ?_
           refine awp_region ?_
           refine r_assign rfl rfl ?_
           refine awl_nil ?_
           refine x_then ?_
           refine awp_ret ?_
           refine x_thenR ?_
           refine x_blockR ?_
           refine x_thenR ?_
           refine x_thenR ?_
           refine x_blockR ?_
           refine x_blockR ?_
           refine x_thenR ?_
           refine x_thenR ?_
           refine x_blockR ?_
           refine x_thenR ?_
           exact ⟨(.inl rfl), _, [], (.one (by first | exact .mk rfl rfl | exact .nil rfl)), ⟨rfl, by first | (rw [right_bad hltx hbad]; rfl) | (rw [right_dup hx hs ((hm2 s).1 hc5)]; rfl) | (rw [right_good (fun i hi => hall i (by omega)) hnd]; rfl)⟩, (List.nil_sublist _), (by simp)⟩
          ·
           refine awp_skip ?_
           refine x_then ?_
           refine awp_region ?_
           refine r_move rfl rfl ?_
           refine r_move rfl rfl ?_
           refine r_mapUpdate 0 (keyEnc_string TF.un9) (ev := boolA) true rfl rfl rfl rfl rfl TF.map100 ?_
           refine awl_nil ?_
           refine x_block ?_
           refine x_then ?_
           refine awp_region ?_
           refine r_ari _ rfl rfl rfl (wrap_id (by first | omega | (simp; omega))) rfl ?_
           refine r_move rfl rfl ?_
           refine awl_nil ?_
           refine x_then ?_
           refine ⟨(namesC x).length - (j + 1), ⟨87, [(0, .a (fcsA d)), (3, .a (.v (.map (some b9)))), (10, .a (fcsA d)), (11, .a (.v (.int .i64 ((d.map FC.cs).length)))), (12, .a (.v (.int .i64 ((k : Int))))), (74, .a (strsA (namesC x))), (75, .a (.v (.int .i64 (((namesC x).map (fun s : ByteArray => [AV.v (.string s)])).length)))), (76, .a (.v (.int .i64 (((j + 1) : Int)))))], [⟨b9, true, .map (encM Value.string boolA ((mset m2 s true)))⟩]⟩, ⟨rfl, (Slots.cons rfl (by first | exact .refl _ | exact .nilOwn _ _ | exact .nilSl _ | exact .ownSl _ _ _  | exact SV.le.of_eq (by simp)) (Slots.cons rfl (by first | exact .refl _ | exact .nilOwn _ _ | exact .nilSl _ | exact .ownSl _ _ _  | exact SV.le.of_eq (by simp)) (Slots.cons rfl (by first | exact .refl _ | exact .nilOwn _ _ | exact .nilSl _ | exact .ownSl _ _ _  | exact SV.le.of_eq (by simp)) (Slots.cons rfl (by first | exact .refl _ | exact .nilOwn _ _ | exact .nilSl _ | exact .ownSl _ _ _  | exact SV.le.of_eq (by simp)) (Slots.cons rfl (by first | exact .refl _ | exact .nilOwn _ _ | exact .nilSl _ | exact .ownSl _ _ _  | exact SV.le.of_eq (by simp)) (Slots.cons rfl (by first | exact .refl _ | exact .nilOwn _ _ | exact .nilSl _ | exact .ownSl _ _ _  | exact SV.le.of_eq (by simp)) (Slots.cons rfl (by first | exact .refl _ | exact .nilOwn _ _ | exact .nilSl _ | exact .ownSl _ _ _  | exact SV.le.of_eq (by simp)) (Slots.cons rfl (by first | exact .refl _ | exact .nilOwn _ _ | exact .nilSl _ | exact .ownSl _ _ _  | exact SV.le.of_eq (by simp)) Slots.nil)))))))), (by first | exact List.Sublist.refl _ | exact .cons_cons _ (.cons _ (.refl _)) | exact List.nil_sublist _ | exact .cons _ (.refl _) | exact .cons _ (.cons _ (.refl _)) | exact .cons _ (.cons _ (.cons _ (.refl _))) | exact .cons _ (.cons _ (.cons _ (.cons _ (.refl _)))) | exact .cons_cons _ (List.nil_sublist _))⟩, (by omega), ⟨j + 1, (mset m2 s true), rfl, rfl, (by omega), (by rw [takeS hs, ← List.append_assoc]; exact nodup_snoc hn2 (fun h => by rw [(hm2 s).2 h] at hc5; cases hc5)), (by rw [takeS hs, ← List.append_assoc]; exact hasS_set hm2)⟩⟩
         ·
          have hge : (namesC x).length ≤ j := by have := of_decide_eq_false hc4; rw [List.length_map] at this; omega
          rw [List.take_of_length_le hge, ← names_take hx] at hn2 hm2
          refine awp_exit ?_
          refine x_thenE ?_
          refine x_thenE ?_
          refine x_blockE ?_
          refine x_block ?_
          refine x_then ?_
          refine awp_region ?_
          refine r_ari _ rfl rfl rfl (wrap_id (by first | omega | (simp; omega))) rfl ?_
          refine r_move rfl rfl ?_
          refine awl_nil ?_
          refine x_then ?_
          refine ⟨d.length - (k + 1), ⟨87, [(0, .a (fcsA d)), (3, .a (.v (.map (some b9)))), (10, .a (fcsA d)), (11, .a (.v (.int .i64 ((d.map FC.cs).length)))), (12, .a (.v (.int .i64 (((k + 1) : Int)))))], [⟨b9, true, .map (encM Value.string boolA (m2))⟩]⟩, ⟨rfl, (Slots.cons rfl (by first | exact .refl _ | exact .nilOwn _ _ | exact .nilSl _ | exact .ownSl _ _ _  | exact SV.le.of_eq (by simp)) (Slots.cons rfl (by first | exact .refl _ | exact .nilOwn _ _ | exact .nilSl _ | exact .ownSl _ _ _  | exact SV.le.of_eq (by simp)) (Slots.cons rfl (by first | exact .refl _ | exact .nilOwn _ _ | exact .nilSl _ | exact .ownSl _ _ _  | exact SV.le.of_eq (by simp)) (Slots.cons rfl (by first | exact .refl _ | exact .nilOwn _ _ | exact .nilSl _ | exact .ownSl _ _ _  | exact SV.le.of_eq (by simp)) (Slots.cons rfl (by first | exact .refl _ | exact .nilOwn _ _ | exact .nilSl _ | exact .ownSl _ _ _  | exact SV.le.of_eq (by simp)) Slots.nil))))), (by first | exact List.Sublist.refl _ | exact .cons_cons _ (.cons _ (.refl _)) | exact List.nil_sublist _ | exact .cons _ (.refl _) | exact .cons _ (.cons _ (.refl _)) | exact .cons _ (.cons _ (.cons _ (.refl _))) | exact .cons _ (.cons _ (.cons _ (.cons _ (.refl _)))) | exact .cons_cons _ (List.nil_sublist _))⟩, (by omega), ⟨k + 1, m2, rfl, rfl, (by omega), (fun i hi => by rcases Nat.lt_succ_iff_lt_or_eq.1 hi with h | rfl; exact hall i h; exact hgood), hn2, hm2⟩⟩
      ·
       have hgood : okC d k = true := by simp only [okC, hx, hg21, hy, hbr, decide_eq_true hk0, pairF, hg40, hg50]; rfl
       refine awp_drawS [26, 27, 28, 29, 30, 31, 32, 33, 34, 35, 36, 37, 38, 39, 40, 41, 42, 43, 44, 45, 46, 47, 48, 49, 50, 51, 52, 53, 54, 55, 56, 57, 58] [_, _, _, _, _, _, _, _, _, _, _, _, _, _, _, _, _, _, _, _, _, _, _, _, _, _, _, _, _, _, _, _, _] [] [] TF.mixed rfl rfl rfl ⟨⟨⟨⟨⟨⟨⟨⟨⟨⟨⟨⟨⟨⟨⟨⟨⟨⟨⟨⟨⟨⟨⟨⟨⟨⟨⟨⟨⟨⟨⟨⟨⟨trivial
        , ⟨_, rfl, fun sl hd hr ho => by
          refine r_move (hr 4 _ rfl rfl rfl) rfl ?_
          exact awl_nil ⟨rfl, post_put⟩⟩⟩
        , ⟨_, rfl, fun sl hd hr ho => by
          refine r_cmp (hd 0 _ rfl rfl rfl) rfl rfl rfl ?_
          exact awl_nil ⟨rfl, post_put⟩⟩⟩
        , ⟨_, rfl, fun sl hd hr ho => by
          refine r_move (hd 1 _ rfl rfl rfl) rfl ?_
          exact awl_nil ⟨rfl, post_put⟩⟩⟩
        , ⟨_, rfl, fun sl hd hr ho => by
          refine g_run rfl (hd 2 _ rfl rfl rfl) hg28 ?_
          refine r_move (hr 0 _ rfl rfl rfl) rfl ?_
          exact awl_nil ⟨rfl, post_put⟩⟩⟩
        , ⟨_, rfl, fun sl hd hr ho => by
          refine g_run rfl (hd 2 _ rfl rfl rfl) hg28 ?_
          refine r_move (hr 4 _ rfl rfl rfl) rfl ?_
          exact awl_nil ⟨rfl, post_put⟩⟩⟩
        , ⟨_, rfl, fun sl hd hr ho => by
          refine g_run rfl (hd 2 _ rfl rfl rfl) hg28 ?_
          refine r_ari _ (hd 4 _ rfl rfl rfl) rfl rfl (wrap_id (by first | omega | (simp; omega))) rfl ?_
          exact awl_nil ⟨rfl, post_put⟩⟩⟩
        , ⟨_, rfl, fun sl hd hr ho => by
          refine g_run rfl (hd 2 _ rfl rfl rfl) hg28 ?_
          refine r_index (hd 3 _ rfl rfl rfl) rfl (hd 5 _ rfl rfl rfl) TF.sl57 TF.sz70 (by omega) (by rw [show ((k : Int) - 1).toNat = k - 1 by omega]; exact get_map hy) rfl ?_
          exact awl_nil ⟨rfl, post_put⟩⟩⟩
        , ⟨_, rfl, fun sl hd hr ho => by
          refine g_run rfl (hd 2 _ rfl rfl rfl) hg28 ?_
          refine r_fieldcp (hd 6 _ rfl rfl rfl) TF.f70_0 TF.sz3 rfl ?_
          exact awl_nil ⟨rfl, post_put⟩⟩⟩
        , ⟨_, rfl, fun sl hd hr ho => by
          refine g_run rfl (hd 2 _ rfl rfl rfl) hg28 ?_
          refine r_load1 (hd 7 _ rfl rfl rfl) TF.agg3 rfl ?_
          exact awl_nil ⟨rfl, post_put⟩⟩⟩
        , ⟨_, rfl, fun sl hd hr ho => by
          refine g_run rfl (hd 2 _ rfl rfl rfl) hg28 ?_
          refine r_call0 hq rfl rfl (.cons (.ev (hd 8 _ rfl rfl rfl) rfl) .nil) (rank_ok y.kind) rfl TF.en89 rfl (fun r hr => ?_)
          obtain rfl := hr
          exact awl_nil ⟨rfl, post_put⟩⟩⟩
        , ⟨_, rfl, fun sl hd hr ho => by
          refine g_run rfl (hd 2 _ rfl rfl rfl) hg28 ?_
          refine r_fieldb (hr 5 _ rfl rfl rfl) TF.f70_0 TF.sz3 rfl ?_
          exact awl_nil ⟨rfl, post_put⟩⟩⟩
        , ⟨_, rfl, fun sl hd hr ho => by
          refine g_run rfl (hd 2 _ rfl rfl rfl) hg28 ?_
          refine r_load1b 0 (hd 10 _ rfl rfl rfl) rfl rfl TF.agg3 rfl ?_
          exact awl_nil ⟨rfl, post_put⟩⟩⟩
        , ⟨_, rfl, fun sl hd hr ho => by
          refine g_run rfl (hd 2 _ rfl rfl rfl) hg28 ?_
          refine r_call0 hq rfl rfl (.cons (.ev (hd 11 _ rfl rfl rfl) rfl) .nil) (rank_ok x.kind) rfl TF.en89 rfl (fun r hr => ?_)
          obtain rfl := hr
          exact awl_nil ⟨rfl, post_put⟩⟩⟩
        , ⟨_, rfl, fun sl hd hr ho => by
          refine g_run rfl (hd 2 _ rfl rfl rfl) hg28 ?_
          refine r_cmp (hd 9 _ rfl rfl rfl) (hd 12 _ rfl rfl rfl) rfl rfl ?_
          exact awl_nil ⟨rfl, post_put⟩⟩⟩
        , ⟨_, rfl, fun sl hd hr ho => by
          refine g_run rfl (hd 2 _ rfl rfl rfl) hg28 ?_
          refine r_move (hd 13 _ rfl rfl rfl) rfl ?_
          exact awl_nil ⟨rfl, post_put⟩⟩⟩
        , ⟨_, rfl, fun sl hd hr ho => by
          refine g_run rfl (hd 14 _ rfl rfl rfl) hg40 ?_
          refine r_move (hr 0 _ rfl rfl rfl) rfl ?_
          exact awl_nil ⟨rfl, post_put⟩⟩⟩
        , ⟨_, rfl, fun sl hd hr ho => by
          refine g_run rfl (hd 14 _ rfl rfl rfl) hg40 ?_
          refine r_move (hr 4 _ rfl rfl rfl) rfl ?_
          exact awl_nil ⟨rfl, post_put⟩⟩⟩
        , ⟨_, rfl, fun sl hd hr ho => by
          refine g_run rfl (hd 14 _ rfl rfl rfl) hg40 ?_
          refine r_ari _ (hd 16 _ rfl rfl rfl) rfl rfl (wrap_id (by first | omega | (simp; omega))) rfl ?_
          exact awl_nil ⟨rfl, post_put⟩⟩⟩
        , ⟨_, rfl, fun sl hd hr ho => by
          refine g_run rfl (hd 14 _ rfl rfl rfl) hg40 ?_
          refine r_index (hd 15 _ rfl rfl rfl) rfl (hd 17 _ rfl rfl rfl) TF.sl57 TF.sz70 (by omega) (by rw [show ((k : Int) - 1).toNat = k - 1 by omega]; exact get_map hy) rfl ?_
          exact awl_nil ⟨rfl, post_put⟩⟩⟩
        , ⟨_, rfl, fun sl hd hr ho => by
          refine g_run rfl (hd 14 _ rfl rfl rfl) hg40 ?_
          refine r_fieldcp (hd 18 _ rfl rfl rfl) TF.f70_0 TF.sz3 rfl ?_
          exact awl_nil ⟨rfl, post_put⟩⟩⟩
        , ⟨_, rfl, fun sl hd hr ho => by
          refine g_run rfl (hd 14 _ rfl rfl rfl) hg40 ?_
          refine r_load1 (hd 19 _ rfl rfl rfl) TF.agg3 rfl ?_
          exact awl_nil ⟨rfl, post_put⟩⟩⟩
        , ⟨_, rfl, fun sl hd hr ho => by
          refine g_run rfl (hd 14 _ rfl rfl rfl) hg40 ?_
          refine r_fieldb (hr 5 _ rfl rfl rfl) TF.f70_0 TF.sz3 rfl ?_
          exact awl_nil ⟨rfl, post_put⟩⟩⟩
        , ⟨_, rfl, fun sl hd hr ho => by
          refine g_run rfl (hd 14 _ rfl rfl rfl) hg40 ?_
          refine r_load1b 0 (hd 21 _ rfl rfl rfl) rfl rfl TF.agg3 rfl ?_
          exact awl_nil ⟨rfl, post_put⟩⟩⟩
        , ⟨_, rfl, fun sl hd hr ho => by
          refine g_run rfl (hd 14 _ rfl rfl rfl) hg40 ?_
          refine r_cmp (hd 20 _ rfl rfl rfl) (hd 22 _ rfl rfl rfl) rfl rfl ?_
          exact awl_nil ⟨rfl, post_put⟩⟩⟩
        , ⟨_, rfl, fun sl hd hr ho => by
          refine g_run rfl (hd 14 _ rfl rfl rfl) hg40 ?_
          refine r_move (hd 23 _ rfl rfl rfl) rfl ?_
          exact awl_nil ⟨rfl, post_put⟩⟩⟩
        , ⟨_, rfl, fun sl hd hr ho => by
          refine g_skip rfl (hd 24 _ rfl rfl rfl) hg50 rfl ?_
          exact awl_nil ⟨rfl, post_put⟩⟩⟩
        , ⟨_, rfl, fun sl hd hr ho => by
          refine g_skip rfl (hd 24 _ rfl rfl rfl) hg50 rfl ?_
          exact awl_nil ⟨rfl, post_put⟩⟩⟩
        , ⟨_, rfl, fun sl hd hr ho => by
          refine g_skip rfl (hd 24 _ rfl rfl rfl) hg50 rfl ?_
          exact awl_nil ⟨rfl, post_put⟩⟩⟩
        , ⟨_, rfl, fun sl hd hr ho => by
          refine g_skip rfl (hd 24 _ rfl rfl rfl) hg50 rfl ?_
          exact awl_nil ⟨rfl, post_put⟩⟩⟩
        , ⟨_, rfl, fun sl hd hr ho => by
          refine g_skip rfl (hd 24 _ rfl rfl rfl) hg50 rfl ?_
          exact awl_nil ⟨rfl, post_put⟩⟩⟩
        , ⟨_, rfl, fun sl hd hr ho => by
          refine g_skip rfl (hd 24 _ rfl rfl rfl) hg50 rfl ?_
          exact awl_nil ⟨rfl, post_put⟩⟩⟩
        , ⟨_, rfl, fun sl hd hr ho => by
          refine g_skip rfl (hd 24 _ rfl rfl rfl) hg50 rfl ?_
          exact awl_nil ⟨rfl, post_put⟩⟩⟩
        , ⟨_, rfl, fun sl hd hr ho => by
          refine g_skip rfl (hd 24 _ rfl rfl rfl) hg50 rfl ?_
          exact awl_nil ⟨rfl, post_put⟩⟩⟩
        (by rfl) ?_
       refine g_skip rfl rfl hg50 rfl ?_
       refine g_run rfl rfl hg40 ?_
       refine r_pickF rfl hg50 rfl rfl ?_
       refine g_run rfl rfl hg28 ?_
       refine r_pickF rfl hg40 rfl rfl ?_
       refine r_pickT rfl hg28 rfl rfl ?_
       refine awl_nil ?_
       refine x_then ?_
       refine awp_condF rfl ?_
       refine awp_skip ?_
       refine x_then ?_
       refine awp_seq ?_
       refine awp_region ?_
       refine r_fieldb rfl TF.f70_1 TF.sz9 rfl ?_
       refine r_load1b 0 rfl rfl rfl TF.agg9 rfl ?_
       refine r_lit 65 (parts := [(0, .tmp 64)]) rfl TF.sl54 TF.sz9 TF.zraw9 rfl rfl rfl rfl rfl rfl rfl ?_
       refine r_assign rfl rfl ?_
       refine awl_nil ?_
       refine x_then ?_
       refine awp_seq ?_
       refine awp_seq ?_
       refine awp_region ?_
       refine r_fieldb rfl TF.f70_0 TF.sz3 rfl ?_
       refine r_load1b 0 rfl rfl rfl TF.agg3 rfl ?_
       refine r_cmp rfl rfl rfl rfl ?_
       refine awl_nil ?_
       refine x_then ?_
       refine awp_cond rfl (fun hc3 => ?_) (fun hc3 => ?_)
       ·
        have hns : namesC x = [x.name, x.to] := by simp [namesC, (eq_of_beq hc3 : x.kind = 4)]
        have hnsl : (namesC x).length ≤ 2 := by rw [hns]; simp
        refine awp_region ?_
        refine r_move rfl rfl ?_
        refine r_fieldb rfl TF.f70_2 TF.sz9 rfl ?_
        refine r_load1b 0 rfl rfl rfl TF.agg9 rfl ?_
        refine r_lit 72 (parts := [(0, .tmp 71)]) rfl TF.sl54 TF.sz9 TF.zraw9 rfl rfl rfl rfl rfl rfl rfl ?_
        refine r_append 65 rfl (by first | exact .own _ | exact .nil) rfl (by first | exact .sl _ | exact .own _ _ | exact .nil) TF.sl54 TF.sz9 (by decide) TF.by9 TF.zlen9 (by simp [chunks] <;> omega) (by simp [chunks] <;> omega) rfl ?_
        refine r_assign rfl rfl ?_
        refine awl_nil ?_
        refine x_then ?_
        refine awp_seq ?_
        refine awp_region ?_
        refine r_move rfl rfl ?_
        refine r_lenS rfl rfl TF.sl54 rfl ?_
        refine r_move rfl rfl ?_
        refine awl_nil ?_
        refine x_then ?_
        refine awp_block ?_
        refine awp_loop (fun nn0 S => ∃ j : Nat, ∃ m2 : List (ByteArray × Bool), S = ⟨87, [(0, .a (fcsA d)), (3, .a (.v (.map (some b9)))), (10, .a (fcsA d)), (11, .a (.v (.int .i64 ((d.map FC.cs).length)))), (12, .a (.v (.int .i64 ((k : Int))))), (74, .a (strsA (namesC x))), (75, .a (.v (.int .i64 (((namesC x).map (fun s : ByteArray => [AV.v (.string s)])).length)))), (76, .a (.v (.int .i64 ((j : Int)))))], [⟨b9, true, .map (encM Value.string boolA m2)⟩]⟩ ∧ nn0 = (namesC x).length - j ∧ (j ≤ (namesC x).length) ∧ (((d.take k).flatMap namesC ++ (namesC x).take j).Nodup) ∧ (HasS m2 ((d.take k).flatMap namesC ++ (namesC x).take j))) ((namesC x).length - (0)) ⟨87, [(0, .a (fcsA d)), (3, .a (.v (.map (some b9)))), (10, .a (fcsA d)), (11, .a (.v (.int .i64 ((d.map FC.cs).length)))), (12, .a (.v (.int .i64 ((k : Int))))), (74, .a (strsA (namesC x))), (75, .a (.v (.int .i64 (((namesC x).map (fun s : ByteArray => [AV.v (.string s)])).length)))), (76, .a (.v (.int .i64 (((0) : Int)))))], [⟨b9, true, .map (encM Value.string boolA (m))⟩]⟩ ⟨rfl, (Slots.cons rfl (by first | exact .refl _ | exact .nilOwn _ _ | exact .nilSl _ | exact .ownSl _ _ _  | exact SV.le.ownEq (by first | rfl | (rw [hns]; rfl) | (rw [hns]; simp [chunks])) | exact SV.le.of_eq (by first | rfl | (rw [hns]; rfl) | (rw [hns]; simp [chunks]))) (Slots.cons rfl (by first | exact .refl _ | exact .nilOwn _ _ | exact .nilSl _ | exact .ownSl _ _ _  | exact SV.le.ownEq (by first | rfl | (rw [hns]; rfl) | (rw [hns]; simp [chunks])) | exact SV.le.of_eq (by first | rfl | (rw [hns]; rfl) | (rw [hns]; simp [chunks]))) (Slots.cons rfl (by first | exact .refl _ | exact .nilOwn _ _ | exact .nilSl _ | exact .ownSl _ _ _  | exact SV.le.ownEq (by first | rfl | (rw [hns]; rfl) | (rw [hns]; simp [chunks])) | exact SV.le.of_eq (by first | rfl | (rw [hns]; rfl) | (rw [hns]; simp [chunks]))) (Slots.cons rfl (by first | exact .refl _ | exact .nilOwn _ _ | exact .nilSl _ | exact .ownSl _ _ _  | exact SV.le.ownEq (by first | rfl | (rw [hns]; rfl) | (rw [hns]; simp [chunks])) | exact SV.le.of_eq (by first | rfl | (rw [hns]; rfl) | (rw [hns]; simp [chunks]))) (Slots.cons rfl (by first | exact .refl _ | exact .nilOwn _ _ | exact .nilSl _ | exact .ownSl _ _ _  | exact SV.le.ownEq (by first | rfl | (rw [hns]; rfl) | (rw [hns]; simp [chunks])) | exact SV.le.of_eq (by first | rfl | (rw [hns]; rfl) | (rw [hns]; simp [chunks]))) (Slots.cons rfl (by first | exact .refl _ | exact .nilOwn _ _ | exact .nilSl _ | exact .ownSl _ _ _  | exact SV.le.ownEq (by first | rfl | (rw [hns]; rfl) | (rw [hns]; simp [chunks])) | exact SV.le.of_eq (by first | rfl | (rw [hns]; rfl) | (rw [hns]; simp [chunks]))) (Slots.cons rfl (by first | exact .refl _ | exact .nilOwn _ _ | exact .nilSl _ | exact .ownSl _ _ _  | exact SV.le.ownEq (by first | rfl | (rw [hns]; rfl) | (rw [hns]; simp [chunks])) | exact SV.le.of_eq (by first | rfl | (rw [hns]; rfl) | (rw [hns]; simp [chunks]))) (Slots.cons rfl (by first | exact .refl _ | exact .nilOwn _ _ | exact .nilSl _ | exact .ownSl _ _ _  | exact SV.le.ownEq (by first | rfl | (rw [hns]; rfl) | (rw [hns]; simp [chunks])) | exact SV.le.of_eq (by first | rfl | (rw [hns]; rfl) | (rw [hns]; simp [chunks]))) Slots.nil)))))))), (by first | exact List.Sublist.refl _ | exact .cons_cons _ (.cons _ (.refl _)) | exact List.nil_sublist _ | exact .cons _ (.refl _) | exact .cons _ (.cons _ (.refl _)) | exact .cons _ (.cons _ (.cons _ (.refl _))) | exact .cons _ (.cons _ (.cons _ (.cons _ (.refl _)))) | exact .cons_cons _ (List.nil_sublist _))⟩ ⟨0, m, rfl, rfl, Nat.zero_le _, (by simpa using hnd), (by simpa using hm)⟩ ?_
        rintro nn0 _ ⟨j, m2, rfl, rfl, hj, hn2, hm2⟩
        refine awp_seq ?_
        refine awp_region ?_
        refine r_cmp rfl rfl rfl rfl ?_
        refine awl_nil ?_
        refine x_then ?_
        refine awp_seq ?_
        refine awp_cond rfl (fun hc4 => ?_) (fun hc4 => ?_)
        ·
         have hlts : j < (namesC x).length := by have := of_decide_eq_true hc4; rw [List.length_map] at this; omega
         obtain ⟨s, hs⟩ := get_lt hlts
         refine awp_skip ?_
         refine x_then ?_
         refine awp_seq ?_
         refine awp_block ?_
         refine awp_seq ?_
         refine awp_region ?_
         refine r_index rfl rfl rfl TF.sl54 TF.sz9 (by omega) (get_map hs) rfl ?_
         refine r_load1 rfl TF.agg9 rfl ?_
         refine r_assign rfl rfl ?_
         refine awl_nil ?_
         refine x_then ?_
         refine awp_seq ?_
         refine awp_seq ?_
         refine awp_region ?_
         refine r_move rfl rfl ?_
         refine r_move rfl rfl ?_
         refine r_lookup 0 (keyEnc_string TF.un9) (ev := boolA) false rfl rfl rfl TF.map100 TF.zav4 rfl ?_
         refine awl_nil ?_
         refine x_then ?_
         refine awp_cond rfl (fun hc5 => ?_) (fun hc5 => ?_)
         ·
          refine awp_seq ?_
          refine awp_region ?_
          refine r_assign rfl rfl ?_
          refine awl_nil ?_
          refine x_then ?_
          refine awp_ret ?_
          refine x_thenR ?_
          refine x_blockR ?_
          refine x_thenR ?_
          refine x_thenR ?_
          refine x_blockR ?_
          refine x_blockR ?_
          refine x_thenR ?_
          refine x_thenR ?_
          refine x_blockR ?_
          refine x_thenR ?_
          exact ⟨(.inl rfl), _, [], (.one (by first | exact .mk rfl rfl | exact .nil rfl)), ⟨rfl, by first | (rw [right_bad hltx hbad]; rfl) | (rw [right_dup hx hs ((hm2 s).1 hc5)]; rfl) | (rw [right_good (fun i hi => hall i (by omega)) hnd]; rfl)⟩, (List.nil_sublist _), (by simp)⟩
         ·
          refine awp_skip ?_
          refine x_then ?_
          refine awp_region ?_
          refine r_move rfl rfl ?_
          refine r_move rfl rfl ?_
          refine r_mapUpdate 0 (keyEnc_string TF.un9) (ev := boolA) true rfl rfl rfl rfl rfl TF.map100 ?_
          refine awl_nil ?_
          refine x_block ?_
          refine x_then ?_
          refine awp_region ?_
          refine r_ari _ rfl rfl rfl (wrap_id (by first | omega | (simp; omega))) rfl ?_
          refine r_move rfl rfl ?_
          refine awl_nil ?_
          refine x_then ?_
          refine ⟨(namesC x).length - (j + 1), ⟨87, [(0, .a (fcsA d)), (3, .a (.v (.map (some b9)))), (10, .a (fcsA d)), (11, .a (.v (.int .i64 ((d.map FC.cs).length)))), (12, .a (.v (.int .i64 ((k : Int))))), (74, .a (strsA (namesC x))), (75, .a (.v (.int .i64 (((namesC x).map (fun s : ByteArray => [AV.v (.string s)])).length)))), (76, .a (.v (.int .i64 (((j + 1) : Int)))))], [⟨b9, true, .map (encM Value.string boolA ((mset m2 s true)))⟩]⟩, ⟨rfl, (Slots.cons rfl (by first | exact .refl _ | exact .nilOwn _ _ | exact .nilSl _ | exact .ownSl _ _ _  | exact SV.le.of_eq (by simp)) (Slots.cons rfl (by first | exact .refl _ | exact .nilOwn _ _ | exact .nilSl _ | exact .ownSl _ _ _  | exact SV.le.of_eq (by simp)) (Slots.cons rfl (by first | exact .refl _ | exact .nilOwn _ _ | exact .nilSl _ | exact .ownSl _ _ _  | exact SV.le.of_eq (by simp)) (Slots.cons rfl (by first | exact .refl _ | exact .nilOwn _ _ | exact .nilSl _ | exact .ownSl _ _ _  | exact SV.le.of_eq (by simp)) (Slots.cons rfl (by first | exact .refl _ | exact .nilOwn _ _ | exact .nilSl _ | exact .ownSl _ _ _  | exact SV.le.of_eq (by simp)) (Slots.cons rfl (by first | exact .refl _ | exact .nilOwn _ _ | exact .nilSl _ | exact .ownSl _ _ _  | exact SV.le.of_eq (by simp)) (Slots.cons rfl (by first | exact .refl _ | exact .nilOwn _ _ | exact .nilSl _ | exact .ownSl _ _ _  | exact SV.le.of_eq (by simp)) (Slots.cons rfl (by first | exact .refl _ | exact .nilOwn _ _ | exact .nilSl _ | exact .ownSl _ _ _  | exact SV.le.of_eq (by simp)) Slots.nil)))))))), (by first | exact List.Sublist.refl _ | exact .cons_cons _ (.cons _ (.refl _)) | exact List.nil_sublist _ | exact .cons _ (.refl _) | exact .cons _ (.cons _ (.refl _)) | exact .cons _ (.cons _ (.cons _ (.refl _))) | exact .cons _ (.cons _ (.cons _ (.cons _ (.refl _)))) | exact .cons_cons _ (List.nil_sublist _))⟩, (by omega), ⟨j + 1, (mset m2 s true), rfl, rfl, (by omega), (by rw [takeS hs, ← List.append_assoc]; exact nodup_snoc hn2 (fun h => by rw [(hm2 s).2 h] at hc5; cases hc5)), (by rw [takeS hs, ← List.append_assoc]; exact hasS_set hm2)⟩⟩
        ·
         have hge : (namesC x).length ≤ j := by have := of_decide_eq_false hc4; rw [List.length_map] at this; omega
         rw [List.take_of_length_le hge, ← names_take hx] at hn2 hm2
         refine awp_exit ?_
         refine x_thenE ?_
         refine x_thenE ?_
         refine x_blockE ?_
         refine x_block ?_
         refine x_then ?_
         refine awp_region ?_
         refine r_ari _ rfl rfl rfl (wrap_id (by first | omega | (simp; omega))) rfl ?_
         refine r_move rfl rfl ?_
         refine awl_nil ?_
         refine x_then ?_
         refine ⟨d.length - (k + 1), ⟨87, [(0, .a (fcsA d)), (3, .a (.v (.map (some b9)))), (10, .a (fcsA d)), (11, .a (.v (.int .i64 ((d.map FC.cs).length)))), (12, .a (.v (.int .i64 (((k + 1) : Int)))))], [⟨b9, true, .map (encM Value.string boolA (m2))⟩]⟩, ⟨rfl, (Slots.cons rfl (by first | exact .refl _ | exact .nilOwn _ _ | exact .nilSl _ | exact .ownSl _ _ _  | exact SV.le.of_eq (by simp)) (Slots.cons rfl (by first | exact .refl _ | exact .nilOwn _ _ | exact .nilSl _ | exact .ownSl _ _ _  | exact SV.le.of_eq (by simp)) (Slots.cons rfl (by first | exact .refl _ | exact .nilOwn _ _ | exact .nilSl _ | exact .ownSl _ _ _  | exact SV.le.of_eq (by simp)) (Slots.cons rfl (by first | exact .refl _ | exact .nilOwn _ _ | exact .nilSl _ | exact .ownSl _ _ _  | exact SV.le.of_eq (by simp)) (Slots.cons rfl (by first | exact .refl _ | exact .nilOwn _ _ | exact .nilSl _ | exact .ownSl _ _ _  | exact SV.le.of_eq (by simp)) Slots.nil))))), (by first | exact List.Sublist.refl _ | exact .cons_cons _ (.cons _ (.refl _)) | exact List.nil_sublist _ | exact .cons _ (.refl _) | exact .cons _ (.cons _ (.refl _)) | exact .cons _ (.cons _ (.cons _ (.refl _))) | exact .cons _ (.cons _ (.cons _ (.cons _ (.refl _)))) | exact .cons_cons _ (List.nil_sublist _))⟩, (by omega), ⟨k + 1, m2, rfl, rfl, (by omega), (fun i hi => by rcases Nat.lt_succ_iff_lt_or_eq.1 hi with h | rfl; exact hall i h; exact hgood), hn2, hm2⟩⟩
       ·
        have hns : namesC x = [x.name] := by simp [namesC, (by simpa using hc3 : ¬ x.kind = 4)]
        have hnsl : (namesC x).length ≤ 2 := by rw [hns]; simp
        refine awp_skip ?_
        refine x_then ?_
        refine awp_seq ?_
        refine awp_region ?_
        refine r_move rfl rfl ?_
        refine r_lenS rfl rfl TF.sl54 rfl ?_
        refine r_move rfl rfl ?_
        refine awl_nil ?_
        refine x_then ?_
        refine awp_block ?_
        refine awp_loop (fun nn0 S => ∃ j : Nat, ∃ m2 : List (ByteArray × Bool), S = ⟨87, [(0, .a (fcsA d)), (3, .a (.v (.map (some b9)))), (10, .a (fcsA d)), (11, .a (.v (.int .i64 ((d.map FC.cs).length)))), (12, .a (.v (.int .i64 ((k : Int))))), (74, .a (strsA (namesC x))), (75, .a (.v (.int .i64 (((namesC x).map (fun s : ByteArray => [AV.v (.string s)])).length)))), (76, .a (.v (.int .i64 ((j : Int)))))], [⟨b9, true, .map (encM Value.string boolA m2)⟩]⟩ ∧ nn0 = (namesC x).length - j ∧ (j ≤ (namesC x).length) ∧ (((d.take k).flatMap namesC ++ (namesC x).take j).Nodup) ∧ (HasS m2 ((d.take k).flatMap namesC ++ (namesC x).take j))) ((namesC x).length - (0)) ⟨87, [(0, .a (fcsA d)), (3, .a (.v (.map (some b9)))), (10, .a (fcsA d)), (11, .a (.v (.int .i64 ((d.map FC.cs).length)))), (12, .a (.v (.int .i64 ((k : Int))))), (74, .a (strsA (namesC x))), (75, .a (.v (.int .i64 (((namesC x).map (fun s : ByteArray => [AV.v (.string s)])).length)))), (76, .a (.v (.int .i64 (((0) : Int)))))], [⟨b9, true, .map (encM Value.string boolA (m))⟩]⟩ ⟨rfl, (Slots.cons rfl (by first | exact .refl _ | exact .nilOwn _ _ | exact .nilSl _ | exact .ownSl _ _ _  | exact SV.le.ownEq (by first | rfl | (rw [hns]; rfl) | (rw [hns]; simp [chunks])) | exact SV.le.of_eq (by first | rfl | (rw [hns]; rfl) | (rw [hns]; simp [chunks]))) (Slots.cons rfl (by first | exact .refl _ | exact .nilOwn _ _ | exact .nilSl _ | exact .ownSl _ _ _  | exact SV.le.ownEq (by first | rfl | (rw [hns]; rfl) | (rw [hns]; simp [chunks])) | exact SV.le.of_eq (by first | rfl | (rw [hns]; rfl) | (rw [hns]; simp [chunks]))) (Slots.cons rfl (by first | exact .refl _ | exact .nilOwn _ _ | exact .nilSl _ | exact .ownSl _ _ _  | exact SV.le.ownEq (by first | rfl | (rw [hns]; rfl) | (rw [hns]; simp [chunks])) | exact SV.le.of_eq (by first | rfl | (rw [hns]; rfl) | (rw [hns]; simp [chunks]))) (Slots.cons rfl (by first | exact .refl _ | exact .nilOwn _ _ | exact .nilSl _ | exact .ownSl _ _ _  | exact SV.le.ownEq (by first | rfl | (rw [hns]; rfl) | (rw [hns]; simp [chunks])) | exact SV.le.of_eq (by first | rfl | (rw [hns]; rfl) | (rw [hns]; simp [chunks]))) (Slots.cons rfl (by first | exact .refl _ | exact .nilOwn _ _ | exact .nilSl _ | exact .ownSl _ _ _  | exact SV.le.ownEq (by first | rfl | (rw [hns]; rfl) | (rw [hns]; simp [chunks])) | exact SV.le.of_eq (by first | rfl | (rw [hns]; rfl) | (rw [hns]; simp [chunks]))) (Slots.cons rfl (by first | exact .refl _ | exact .nilOwn _ _ | exact .nilSl _ | exact .ownSl _ _ _  | exact SV.le.ownEq (by first | rfl | (rw [hns]; rfl) | (rw [hns]; simp [chunks])) | exact SV.le.of_eq (by first | rfl | (rw [hns]; rfl) | (rw [hns]; simp [chunks]))) (Slots.cons rfl (by first | exact .refl _ | exact .nilOwn _ _ | exact .nilSl _ | exact .ownSl _ _ _  | exact SV.le.ownEq (by first | rfl | (rw [hns]; rfl) | (rw [hns]; simp [chunks])) | exact SV.le.of_eq (by first | rfl | (rw [hns]; rfl) | (rw [hns]; simp [chunks]))) (Slots.cons rfl (by first | exact .refl _ | exact .nilOwn _ _ | exact .nilSl _ | exact .ownSl _ _ _  | exact SV.le.ownEq (by first | rfl | (rw [hns]; rfl) | (rw [hns]; simp [chunks])) | exact SV.le.of_eq (by first | rfl | (rw [hns]; rfl) | (rw [hns]; simp [chunks]))) Slots.nil)))))))), (by first | exact List.Sublist.refl _ | exact .cons_cons _ (.cons _ (.refl _)) | exact List.nil_sublist _ | exact .cons _ (.refl _) | exact .cons _ (.cons _ (.refl _)) | exact .cons _ (.cons _ (.cons _ (.refl _))) | exact .cons _ (.cons _ (.cons _ (.cons _ (.refl _)))) | exact .cons_cons _ (List.nil_sublist _))⟩ ⟨0, m, rfl, rfl, Nat.zero_le _, (by simpa using hnd), (by simpa using hm)⟩ ?_
        rintro nn0 _ ⟨j, m2, rfl, rfl, hj, hn2, hm2⟩
        refine awp_seq ?_
        refine awp_region ?_
        refine r_cmp rfl rfl rfl rfl ?_
        refine awl_nil ?_
        refine x_then ?_
        refine awp_seq ?_
        refine awp_cond rfl (fun hc4 => ?_) (fun hc4 => ?_)
        ·
         have hlts : j < (namesC x).length := by have := of_decide_eq_true hc4; rw [List.length_map] at this; omega
         obtain ⟨s, hs⟩ := get_lt hlts
         refine awp_skip ?_
         refine x_then ?_
         refine awp_seq ?_
         refine awp_block ?_
         refine awp_seq ?_
         refine awp_region ?_
         refine r_index rfl rfl rfl TF.sl54 TF.sz9 (by omega) (get_map hs) rfl ?_
         refine r_load1 rfl TF.agg9 rfl ?_
         refine r_assign rfl rfl ?_
         refine awl_nil ?_
         refine x_then ?_
         refine awp_seq ?_
         refine awp_seq ?_
         refine awp_region ?_
         refine r_move rfl rfl ?_
         refine r_move rfl rfl ?_
         refine r_lookup 0 (keyEnc_string TF.un9) (ev := boolA) false rfl rfl rfl TF.map100 TF.zav4 rfl ?_
         refine awl_nil ?_
         refine x_then ?_
         refine awp_cond rfl (fun hc5 => ?_) (fun hc5 => ?_)
         ·
          refine awp_seq ?_
          refine awp_region ?_
          refine r_assign rfl rfl ?_
          refine awl_nil ?_
          refine x_then ?_
          refine awp_ret ?_
          refine x_thenR ?_
          refine x_blockR ?_
          refine x_thenR ?_
          refine x_thenR ?_
          refine x_blockR ?_
          refine x_blockR ?_
          refine x_thenR ?_
          refine x_thenR ?_
          refine x_blockR ?_
          refine x_thenR ?_
          exact ⟨(.inl rfl), _, [], (.one (by first | exact .mk rfl rfl | exact .nil rfl)), ⟨rfl, by first | (rw [right_bad hltx hbad]; rfl) | (rw [right_dup hx hs ((hm2 s).1 hc5)]; rfl) | (rw [right_good (fun i hi => hall i (by omega)) hnd]; rfl)⟩, (List.nil_sublist _), (by simp)⟩
         ·
          refine awp_skip ?_
          refine x_then ?_
          refine awp_region ?_
          refine r_move rfl rfl ?_
          refine r_move rfl rfl ?_
          refine r_mapUpdate 0 (keyEnc_string TF.un9) (ev := boolA) true rfl rfl rfl rfl rfl TF.map100 ?_
          refine awl_nil ?_
          refine x_block ?_
          refine x_then ?_
          refine awp_region ?_
          refine r_ari _ rfl rfl rfl (wrap_id (by first | omega | (simp; omega))) rfl ?_
          refine r_move rfl rfl ?_
          refine awl_nil ?_
          refine x_then ?_
          refine ⟨(namesC x).length - (j + 1), ⟨87, [(0, .a (fcsA d)), (3, .a (.v (.map (some b9)))), (10, .a (fcsA d)), (11, .a (.v (.int .i64 ((d.map FC.cs).length)))), (12, .a (.v (.int .i64 ((k : Int))))), (74, .a (strsA (namesC x))), (75, .a (.v (.int .i64 (((namesC x).map (fun s : ByteArray => [AV.v (.string s)])).length)))), (76, .a (.v (.int .i64 (((j + 1) : Int)))))], [⟨b9, true, .map (encM Value.string boolA ((mset m2 s true)))⟩]⟩, ⟨rfl, (Slots.cons rfl (by first | exact .refl _ | exact .nilOwn _ _ | exact .nilSl _ | exact .ownSl _ _ _  | exact SV.le.of_eq (by simp)) (Slots.cons rfl (by first | exact .refl _ | exact .nilOwn _ _ | exact .nilSl _ | exact .ownSl _ _ _  | exact SV.le.of_eq (by simp)) (Slots.cons rfl (by first | exact .refl _ | exact .nilOwn _ _ | exact .nilSl _ | exact .ownSl _ _ _  | exact SV.le.of_eq (by simp)) (Slots.cons rfl (by first | exact .refl _ | exact .nilOwn _ _ | exact .nilSl _ | exact .ownSl _ _ _  | exact SV.le.of_eq (by simp)) (Slots.cons rfl (by first | exact .refl _ | exact .nilOwn _ _ | exact .nilSl _ | exact .ownSl _ _ _  | exact SV.le.of_eq (by simp)) (Slots.cons rfl (by first | exact .refl _ | exact .nilOwn _ _ | exact .nilSl _ | exact .ownSl _ _ _  | exact SV.le.of_eq (by simp)) (Slots.cons rfl (by first | exact .refl _ | exact .nilOwn _ _ | exact .nilSl _ | exact .ownSl _ _ _  | exact SV.le.of_eq (by simp)) (Slots.cons rfl (by first | exact .refl _ | exact .nilOwn _ _ | exact .nilSl _ | exact .ownSl _ _ _  | exact SV.le.of_eq (by simp)) Slots.nil)))))))), (by first | exact List.Sublist.refl _ | exact .cons_cons _ (.cons _ (.refl _)) | exact List.nil_sublist _ | exact .cons _ (.refl _) | exact .cons _ (.cons _ (.refl _)) | exact .cons _ (.cons _ (.cons _ (.refl _))) | exact .cons _ (.cons _ (.cons _ (.cons _ (.refl _)))) | exact .cons_cons _ (List.nil_sublist _))⟩, (by omega), ⟨j + 1, (mset m2 s true), rfl, rfl, (by omega), (by rw [takeS hs, ← List.append_assoc]; exact nodup_snoc hn2 (fun h => by rw [(hm2 s).2 h] at hc5; cases hc5)), (by rw [takeS hs, ← List.append_assoc]; exact hasS_set hm2)⟩⟩
        ·
         have hge : (namesC x).length ≤ j := by have := of_decide_eq_false hc4; rw [List.length_map] at this; omega
         rw [List.take_of_length_le hge, ← names_take hx] at hn2 hm2
         refine awp_exit ?_
         refine x_thenE ?_
         refine x_thenE ?_
         refine x_blockE ?_
         refine x_block ?_
         refine x_then ?_
         refine awp_region ?_
         refine r_ari _ rfl rfl rfl (wrap_id (by first | omega | (simp; omega))) rfl ?_
         refine r_move rfl rfl ?_
         refine awl_nil ?_
         refine x_then ?_
         refine ⟨d.length - (k + 1), ⟨87, [(0, .a (fcsA d)), (3, .a (.v (.map (some b9)))), (10, .a (fcsA d)), (11, .a (.v (.int .i64 ((d.map FC.cs).length)))), (12, .a (.v (.int .i64 (((k + 1) : Int)))))], [⟨b9, true, .map (encM Value.string boolA (m2))⟩]⟩, ⟨rfl, (Slots.cons rfl (by first | exact .refl _ | exact .nilOwn _ _ | exact .nilSl _ | exact .ownSl _ _ _  | exact SV.le.of_eq (by simp)) (Slots.cons rfl (by first | exact .refl _ | exact .nilOwn _ _ | exact .nilSl _ | exact .ownSl _ _ _  | exact SV.le.of_eq (by simp)) (Slots.cons rfl (by first | exact .refl _ | exact .nilOwn _ _ | exact .nilSl _ | exact .ownSl _ _ _  | exact SV.le.of_eq (by simp)) (Slots.cons rfl (by first | exact .refl _ | exact .nilOwn _ _ | exact .nilSl _ | exact .ownSl _ _ _  | exact SV.le.of_eq (by simp)) (Slots.cons rfl (by first | exact .refl _ | exact .nilOwn _ _ | exact .nilSl _ | exact .ownSl _ _ _  | exact SV.le.of_eq (by simp)) Slots.nil))))), (by first | exact List.Sublist.refl _ | exact .cons_cons _ (.cons _ (.refl _)) | exact List.nil_sublist _ | exact .cons _ (.refl _) | exact .cons _ (.cons _ (.refl _)) | exact .cons _ (.cons _ (.cons _ (.refl _))) | exact .cons _ (.cons _ (.cons _ (.cons _ (.refl _)))) | exact .cons_cons _ (List.nil_sublist _))⟩, (by omega), ⟨k + 1, m2, rfl, rfl, (by omega), (fun i hi => by rcases Nat.lt_succ_iff_lt_or_eq.1 hi with h | rfl; exact hall i h; exact hgood), hn2, hm2⟩⟩
    ·
     have hk0 : ¬ 0 < k := by have := of_decide_eq_false hg28; omega
     have hgood : okC d k = true := by simp only [okC, hx, hg21, hbr, decide_eq_false hk0]; rfl
     refine awp_drawS [26, 27, 28, 29, 30, 31, 32, 33, 34, 35, 36, 37, 38, 39, 40, 41, 42, 43, 44, 45, 46, 47, 48, 49, 50, 51, 52, 53, 54, 55, 56, 57, 58] [_, _, _, _, _, _, _, _, _, _, _, _, _, _, _, _, _, _, _, _, _, _, _, _, _, _, _, _, _, _, _, _, _] [] [] TF.mixed rfl rfl rfl ⟨⟨⟨⟨⟨⟨⟨⟨⟨⟨⟨⟨⟨⟨⟨⟨⟨⟨⟨⟨⟨⟨⟨⟨⟨⟨⟨⟨⟨⟨⟨⟨⟨trivial
      , ⟨_, rfl, fun sl hd hr ho => by
        refine r_move (hr 4 _ rfl rfl rfl) rfl ?_
        exact awl_nil ⟨rfl, post_put⟩⟩⟩
      , ⟨_, rfl, fun sl hd hr ho => by
        refine r_cmp (hd 0 _ rfl rfl rfl) rfl rfl rfl ?_
        exact awl_nil ⟨rfl, post_put⟩⟩⟩
      , ⟨_, rfl, fun sl hd hr ho => by
        refine r_move (hd 1 _ rfl rfl rfl) rfl ?_
        exact awl_nil ⟨rfl, post_put⟩⟩⟩
      , ⟨_, rfl, fun sl hd hr ho => by
        refine g_skip rfl (hd 2 _ rfl rfl rfl) hg28 rfl ?_
        exact awl_nil ⟨rfl, post_put⟩⟩⟩
      , ⟨_, rfl, fun sl hd hr ho => by
        refine g_skip rfl (hd 2 _ rfl rfl rfl) hg28 rfl ?_
        exact awl_nil ⟨rfl, post_put⟩⟩⟩
      , ⟨_, rfl, fun sl hd hr ho => by
        refine g_skip rfl (hd 2 _ rfl rfl rfl) hg28 rfl ?_
        exact awl_nil ⟨rfl, post_put⟩⟩⟩
      , ⟨_, rfl, fun sl hd hr ho => by
        refine g_skip rfl (hd 2 _ rfl rfl rfl) hg28 rfl ?_
        exact awl_nil ⟨rfl, post_put⟩⟩⟩
      , ⟨_, rfl, fun sl hd hr ho => by
        refine g_skip rfl (hd 2 _ rfl rfl rfl) hg28 rfl ?_
        exact awl_nil ⟨rfl, post_put⟩⟩⟩
      , ⟨_, rfl, fun sl hd hr ho => by
        refine g_skip rfl (hd 2 _ rfl rfl rfl) hg28 rfl ?_
        exact awl_nil ⟨rfl, post_put⟩⟩⟩
      , ⟨_, rfl, fun sl hd hr ho => by
        refine g_skip rfl (hd 2 _ rfl rfl rfl) hg28 rfl ?_
        exact awl_nil ⟨rfl, post_put⟩⟩⟩
      , ⟨_, rfl, fun sl hd hr ho => by
        refine g_skip rfl (hd 2 _ rfl rfl rfl) hg28 rfl ?_
        exact awl_nil ⟨rfl, post_put⟩⟩⟩
      , ⟨_, rfl, fun sl hd hr ho => by
        refine g_skip rfl (hd 2 _ rfl rfl rfl) hg28 rfl ?_
        exact awl_nil ⟨rfl, post_put⟩⟩⟩
      , ⟨_, rfl, fun sl hd hr ho => by
        refine g_skip rfl (hd 2 _ rfl rfl rfl) hg28 rfl ?_
        exact awl_nil ⟨rfl, post_put⟩⟩⟩
      , ⟨_, rfl, fun sl hd hr ho => by
        refine g_skip rfl (hd 2 _ rfl rfl rfl) hg28 rfl ?_
        exact awl_nil ⟨rfl, post_put⟩⟩⟩
      , ⟨_, rfl, fun sl hd hr ho => by
        refine g_skip rfl (hd 2 _ rfl rfl rfl) hg28 rfl ?_
        exact awl_nil ⟨rfl, post_put⟩⟩⟩
      , ⟨_, rfl, fun sl hd hr ho => by
        refine g_skipU rfl (hd 14 _ rfl rfl rfl) rfl ?_
        exact awl_nil ⟨rfl, post_put⟩⟩⟩
      , ⟨_, rfl, fun sl hd hr ho => by
        refine g_skipU rfl (hd 14 _ rfl rfl rfl) rfl ?_
        exact awl_nil ⟨rfl, post_put⟩⟩⟩
      , ⟨_, rfl, fun sl hd hr ho => by
        refine g_skipU rfl (hd 14 _ rfl rfl rfl) rfl ?_
        exact awl_nil ⟨rfl, post_put⟩⟩⟩
      , ⟨_, rfl, fun sl hd hr ho => by
        refine g_skipU rfl (hd 14 _ rfl rfl rfl) rfl ?_
        exact awl_nil ⟨rfl, post_put⟩⟩⟩
      , ⟨_, rfl, fun sl hd hr ho => by
        refine g_skipU rfl (hd 14 _ rfl rfl rfl) rfl ?_
        exact awl_nil ⟨rfl, post_put⟩⟩⟩
      , ⟨_, rfl, fun sl hd hr ho => by
        refine g_skipU rfl (hd 14 _ rfl rfl rfl) rfl ?_
        exact awl_nil ⟨rfl, post_put⟩⟩⟩
      , ⟨_, rfl, fun sl hd hr ho => by
        refine g_skipU rfl (hd 14 _ rfl rfl rfl) rfl ?_
        exact awl_nil ⟨rfl, post_put⟩⟩⟩
      , ⟨_, rfl, fun sl hd hr ho => by
        refine g_skipU rfl (hd 14 _ rfl rfl rfl) rfl ?_
        exact awl_nil ⟨rfl, post_put⟩⟩⟩
      , ⟨_, rfl, fun sl hd hr ho => by
        refine g_skipU rfl (hd 14 _ rfl rfl rfl) rfl ?_
        exact awl_nil ⟨rfl, post_put⟩⟩⟩
      , ⟨_, rfl, fun sl hd hr ho => by
        refine g_skipU rfl (hd 14 _ rfl rfl rfl) rfl ?_
        exact awl_nil ⟨rfl, post_put⟩⟩⟩
      , ⟨_, rfl, fun sl hd hr ho => by
        refine g_skipU rfl (hd 24 _ rfl rfl rfl) rfl ?_
        exact awl_nil ⟨rfl, post_put⟩⟩⟩
      , ⟨_, rfl, fun sl hd hr ho => by
        refine g_skipU rfl (hd 24 _ rfl rfl rfl) rfl ?_
        exact awl_nil ⟨rfl, post_put⟩⟩⟩
      , ⟨_, rfl, fun sl hd hr ho => by
        refine g_skipU rfl (hd 24 _ rfl rfl rfl) rfl ?_
        exact awl_nil ⟨rfl, post_put⟩⟩⟩
      , ⟨_, rfl, fun sl hd hr ho => by
        refine g_skipU rfl (hd 24 _ rfl rfl rfl) rfl ?_
        exact awl_nil ⟨rfl, post_put⟩⟩⟩
      , ⟨_, rfl, fun sl hd hr ho => by
        refine g_skipU rfl (hd 24 _ rfl rfl rfl) rfl ?_
        exact awl_nil ⟨rfl, post_put⟩⟩⟩
      , ⟨_, rfl, fun sl hd hr ho => by
        refine g_skipU rfl (hd 24 _ rfl rfl rfl) rfl ?_
        exact awl_nil ⟨rfl, post_put⟩⟩⟩
      , ⟨_, rfl, fun sl hd hr ho => by
        refine g_skipU rfl (hd 24 _ rfl rfl rfl) rfl ?_
        exact awl_nil ⟨rfl, post_put⟩⟩⟩
      , ⟨_, rfl, fun sl hd hr ho => by
        refine g_skipU rfl (hd 24 _ rfl rfl rfl) rfl ?_
        exact awl_nil ⟨rfl, post_put⟩⟩⟩
      (by rfl) ?_
     refine g_skipU rfl rfl rfl ?_
     refine g_skipU rfl rfl rfl ?_
     refine g_skip rfl rfl hg28 rfl ?_
     refine r_pickF rfl hg28 rfl rfl ?_
     refine awl_nil ?_
     refine x_then ?_
     refine awp_condF rfl ?_
     refine awp_skip ?_
     refine x_then ?_
     refine awp_seq ?_
     refine awp_region ?_
     refine r_fieldb rfl TF.f70_1 TF.sz9 rfl ?_
     refine r_load1b 0 rfl rfl rfl TF.agg9 rfl ?_
     refine r_lit 65 (parts := [(0, .tmp 64)]) rfl TF.sl54 TF.sz9 TF.zraw9 rfl rfl rfl rfl rfl rfl rfl ?_
     refine r_assign rfl rfl ?_
     refine awl_nil ?_
     refine x_then ?_
     refine awp_seq ?_
     refine awp_seq ?_
     refine awp_region ?_
     refine r_fieldb rfl TF.f70_0 TF.sz3 rfl ?_
     refine r_load1b 0 rfl rfl rfl TF.agg3 rfl ?_
     refine r_cmp rfl rfl rfl rfl ?_
     refine awl_nil ?_
     refine x_then ?_
     refine awp_cond rfl (fun hc3 => ?_) (fun hc3 => ?_)
     ·
      have hns : namesC x = [x.name, x.to] := by simp [namesC, (eq_of_beq hc3 : x.kind = 4)]
      have hnsl : (namesC x).length ≤ 2 := by rw [hns]; simp
      refine awp_region ?_
      refine r_move rfl rfl ?_
      refine r_fieldb rfl TF.f70_2 TF.sz9 rfl ?_
      refine r_load1b 0 rfl rfl rfl TF.agg9 rfl ?_
      refine r_lit 72 (parts := [(0, .tmp 71)]) rfl TF.sl54 TF.sz9 TF.zraw9 rfl rfl rfl rfl rfl rfl rfl ?_
      refine r_append 65 rfl (by first | exact .own _ | exact .nil) rfl (by first | exact .sl _ | exact .own _ _ | exact .nil) TF.sl54 TF.sz9 (by decide) TF.by9 TF.zlen9 (by simp [chunks] <;> omega) (by simp [chunks] <;> omega) rfl ?_
      refine r_assign rfl rfl ?_
      refine awl_nil ?_
      refine x_then ?_
      refine awp_seq ?_
      refine awp_region ?_
      refine r_move rfl rfl ?_
      refine r_lenS rfl rfl TF.sl54 rfl ?_
      refine r_move rfl rfl ?_
      refine awl_nil ?_
      refine x_then ?_
      refine awp_block ?_
      refine awp_loop (fun nn0 S => ∃ j : Nat, ∃ m2 : List (ByteArray × Bool), S = ⟨87, [(0, .a (fcsA d)), (3, .a (.v (.map (some b9)))), (10, .a (fcsA d)), (11, .a (.v (.int .i64 ((d.map FC.cs).length)))), (12, .a (.v (.int .i64 ((k : Int))))), (74, .a (strsA (namesC x))), (75, .a (.v (.int .i64 (((namesC x).map (fun s : ByteArray => [AV.v (.string s)])).length)))), (76, .a (.v (.int .i64 ((j : Int)))))], [⟨b9, true, .map (encM Value.string boolA m2)⟩]⟩ ∧ nn0 = (namesC x).length - j ∧ (j ≤ (namesC x).length) ∧ (((d.take k).flatMap namesC ++ (namesC x).take j).Nodup) ∧ (HasS m2 ((d.take k).flatMap namesC ++ (namesC x).take j))) ((namesC x).length - (0)) ⟨87, [(0, .a (fcsA d)), (3, .a (.v (.map (some b9)))), (10, .a (fcsA d)), (11, .a (.v (.int .i64 ((d.map FC.cs).length)))), (12, .a (.v (.int .i64 ((k : Int))))), (74, .a (strsA (namesC x))), (75, .a (.v (.int .i64 (((namesC x).map (fun s : ByteArray => [AV.v (.string s)])).length)))), (76, .a (.v (.int .i64 (((0) : Int)))))], [⟨b9, true, .map (encM Value.string boolA (m))⟩]⟩ ⟨rfl, (Slots.cons rfl (by first | exact .refl _ | exact .nilOwn _ _ | exact .nilSl _ | exact .ownSl _ _ _  | exact SV.le.ownEq (by first | rfl | (rw [hns]; rfl) | (rw [hns]; simp [chunks])) | exact SV.le.of_eq (by first | rfl | (rw [hns]; rfl) | (rw [hns]; simp [chunks]))) (Slots.cons rfl (by first | exact .refl _ | exact .nilOwn _ _ | exact .nilSl _ | exact .ownSl _ _ _  | exact SV.le.ownEq (by first | rfl | (rw [hns]; rfl) | (rw [hns]; simp [chunks])) | exact SV.le.of_eq (by first | rfl | (rw [hns]; rfl) | (rw [hns]; simp [chunks]))) (Slots.cons rfl (by first | exact .refl _ | exact .nilOwn _ _ | exact .nilSl _ | exact .ownSl _ _ _  | exact SV.le.ownEq (by first | rfl | (rw [hns]; rfl) | (rw [hns]; simp [chunks])) | exact SV.le.of_eq (by first | rfl | (rw [hns]; rfl) | (rw [hns]; simp [chunks]))) (Slots.cons rfl (by first | exact .refl _ | exact .nilOwn _ _ | exact .nilSl _ | exact .ownSl _ _ _  | exact SV.le.ownEq (by first | rfl | (rw [hns]; rfl) | (rw [hns]; simp [chunks])) | exact SV.le.of_eq (by first | rfl | (rw [hns]; rfl) | (rw [hns]; simp [chunks]))) (Slots.cons rfl (by first | exact .refl _ | exact .nilOwn _ _ | exact .nilSl _ | exact .ownSl _ _ _  | exact SV.le.ownEq (by first | rfl | (rw [hns]; rfl) | (rw [hns]; simp [chunks])) | exact SV.le.of_eq (by first | rfl | (rw [hns]; rfl) | (rw [hns]; simp [chunks]))) (Slots.cons rfl (by first | exact .refl _ | exact .nilOwn _ _ | exact .nilSl _ | exact .ownSl _ _ _  | exact SV.le.ownEq (by first | rfl | (rw [hns]; rfl) | (rw [hns]; simp [chunks])) | exact SV.le.of_eq (by first | rfl | (rw [hns]; rfl) | (rw [hns]; simp [chunks]))) (Slots.cons rfl (by first | exact .refl _ | exact .nilOwn _ _ | exact .nilSl _ | exact .ownSl _ _ _  | exact SV.le.ownEq (by first | rfl | (rw [hns]; rfl) | (rw [hns]; simp [chunks])) | exact SV.le.of_eq (by first | rfl | (rw [hns]; rfl) | (rw [hns]; simp [chunks]))) (Slots.cons rfl (by first | exact .refl _ | exact .nilOwn _ _ | exact .nilSl _ | exact .ownSl _ _ _  | exact SV.le.ownEq (by first | rfl | (rw [hns]; rfl) | (rw [hns]; simp [chunks])) | exact SV.le.of_eq (by first | rfl | (rw [hns]; rfl) | (rw [hns]; simp [chunks]))) Slots.nil)))))))), (by first | exact List.Sublist.refl _ | exact .cons_cons _ (.cons _ (.refl _)) | exact List.nil_sublist _ | exact .cons _ (.refl _) | exact .cons _ (.cons _ (.refl _)) | exact .cons _ (.cons _ (.cons _ (.refl _))) | exact .cons _ (.cons _ (.cons _ (.cons _ (.refl _)))) | exact .cons_cons _ (List.nil_sublist _))⟩ ⟨0, m, rfl, rfl, Nat.zero_le _, (by simpa using hnd), (by simpa using hm)⟩ ?_
      rintro nn0 _ ⟨j, m2, rfl, rfl, hj, hn2, hm2⟩
      refine awp_seq ?_
      refine awp_region ?_
      refine r_cmp rfl rfl rfl rfl ?_
      refine awl_nil ?_
      refine x_then ?_
      refine awp_seq ?_
      refine awp_cond rfl (fun hc4 => ?_) (fun hc4 => ?_)
      ·
       have hlts : j < (namesC x).length := by have := of_decide_eq_true hc4; rw [List.length_map] at this; omega
       obtain ⟨s, hs⟩ := get_lt hlts
       refine awp_skip ?_
       refine x_then ?_
       refine awp_seq ?_
       refine awp_block ?_
       refine awp_seq ?_
       refine awp_region ?_
       refine r_index rfl rfl rfl TF.sl54 TF.sz9 (by omega) (get_map hs) rfl ?_
       refine r_load1 rfl TF.agg9 rfl ?_
       refine r_assign rfl rfl ?_
       refine awl_nil ?_
       refine x_then ?_
       refine awp_seq ?_
       refine awp_seq ?_
       refine awp_region ?_
       refine r_move rfl rfl ?_
       refine r_move rfl rfl ?_
       refine r_lookup 0 (keyEnc_string TF.un9) (ev := boolA) false rfl rfl rfl TF.map100 TF.zav4 rfl ?_
       refine awl_nil ?_
       refine x_then ?_
       refine awp_cond rfl (fun hc5 => ?_) (fun hc5 => ?_)
       ·
        refine awp_seq ?_
        refine awp_region ?_
        refine r_assign rfl rfl ?_
        refine awl_nil ?_
        refine x_then ?_
        refine awp_ret ?_
        refine x_thenR ?_
        refine x_blockR ?_
        refine x_thenR ?_
        refine x_thenR ?_
        refine x_blockR ?_
        refine x_blockR ?_
        refine x_thenR ?_
        refine x_thenR ?_
        refine x_blockR ?_
        refine x_thenR ?_
        exact ⟨(.inl rfl), _, [], (.one (by first | exact .mk rfl rfl | exact .nil rfl)), ⟨rfl, by first | (rw [right_bad hltx hbad]; rfl) | (rw [right_dup hx hs ((hm2 s).1 hc5)]; rfl) | (rw [right_good (fun i hi => hall i (by omega)) hnd]; rfl)⟩, (List.nil_sublist _), (by simp)⟩
       ·
        refine awp_skip ?_
        refine x_then ?_
        refine awp_region ?_
        refine r_move rfl rfl ?_
        refine r_move rfl rfl ?_
        refine r_mapUpdate 0 (keyEnc_string TF.un9) (ev := boolA) true rfl rfl rfl rfl rfl TF.map100 ?_
        refine awl_nil ?_
        refine x_block ?_
        refine x_then ?_
        refine awp_region ?_
        refine r_ari _ rfl rfl rfl (wrap_id (by first | omega | (simp; omega))) rfl ?_
        refine r_move rfl rfl ?_
        refine awl_nil ?_
        refine x_then ?_
        refine ⟨(namesC x).length - (j + 1), ⟨87, [(0, .a (fcsA d)), (3, .a (.v (.map (some b9)))), (10, .a (fcsA d)), (11, .a (.v (.int .i64 ((d.map FC.cs).length)))), (12, .a (.v (.int .i64 ((k : Int))))), (74, .a (strsA (namesC x))), (75, .a (.v (.int .i64 (((namesC x).map (fun s : ByteArray => [AV.v (.string s)])).length)))), (76, .a (.v (.int .i64 (((j + 1) : Int)))))], [⟨b9, true, .map (encM Value.string boolA ((mset m2 s true)))⟩]⟩, ⟨rfl, (Slots.cons rfl (by first | exact .refl _ | exact .nilOwn _ _ | exact .nilSl _ | exact .ownSl _ _ _  | exact SV.le.of_eq (by simp)) (Slots.cons rfl (by first | exact .refl _ | exact .nilOwn _ _ | exact .nilSl _ | exact .ownSl _ _ _  | exact SV.le.of_eq (by simp)) (Slots.cons rfl (by first | exact .refl _ | exact .nilOwn _ _ | exact .nilSl _ | exact .ownSl _ _ _  | exact SV.le.of_eq (by simp)) (Slots.cons rfl (by first | exact .refl _ | exact .nilOwn _ _ | exact .nilSl _ | exact .ownSl _ _ _  | exact SV.le.of_eq (by simp)) (Slots.cons rfl (by first | exact .refl _ | exact .nilOwn _ _ | exact .nilSl _ | exact .ownSl _ _ _  | exact SV.le.of_eq (by simp)) (Slots.cons rfl (by first | exact .refl _ | exact .nilOwn _ _ | exact .nilSl _ | exact .ownSl _ _ _  | exact SV.le.of_eq (by simp)) (Slots.cons rfl (by first | exact .refl _ | exact .nilOwn _ _ | exact .nilSl _ | exact .ownSl _ _ _  | exact SV.le.of_eq (by simp)) (Slots.cons rfl (by first | exact .refl _ | exact .nilOwn _ _ | exact .nilSl _ | exact .ownSl _ _ _  | exact SV.le.of_eq (by simp)) Slots.nil)))))))), (by first | exact List.Sublist.refl _ | exact .cons_cons _ (.cons _ (.refl _)) | exact List.nil_sublist _ | exact .cons _ (.refl _) | exact .cons _ (.cons _ (.refl _)) | exact .cons _ (.cons _ (.cons _ (.refl _))) | exact .cons _ (.cons _ (.cons _ (.cons _ (.refl _)))) | exact .cons_cons _ (List.nil_sublist _))⟩, (by omega), ⟨j + 1, (mset m2 s true), rfl, rfl, (by omega), (by rw [takeS hs, ← List.append_assoc]; exact nodup_snoc hn2 (fun h => by rw [(hm2 s).2 h] at hc5; cases hc5)), (by rw [takeS hs, ← List.append_assoc]; exact hasS_set hm2)⟩⟩
      ·
       have hge : (namesC x).length ≤ j := by have := of_decide_eq_false hc4; rw [List.length_map] at this; omega
       rw [List.take_of_length_le hge, ← names_take hx] at hn2 hm2
       refine awp_exit ?_
       refine x_thenE ?_
       refine x_thenE ?_
       refine x_blockE ?_
       refine x_block ?_
       refine x_then ?_
       refine awp_region ?_
       refine r_ari _ rfl rfl rfl (wrap_id (by first | omega | (simp; omega))) rfl ?_
       refine r_move rfl rfl ?_
       refine awl_nil ?_
       refine x_then ?_
       refine ⟨d.length - (k + 1), ⟨87, [(0, .a (fcsA d)), (3, .a (.v (.map (some b9)))), (10, .a (fcsA d)), (11, .a (.v (.int .i64 ((d.map FC.cs).length)))), (12, .a (.v (.int .i64 (((k + 1) : Int)))))], [⟨b9, true, .map (encM Value.string boolA (m2))⟩]⟩, ⟨rfl, (Slots.cons rfl (by first | exact .refl _ | exact .nilOwn _ _ | exact .nilSl _ | exact .ownSl _ _ _  | exact SV.le.of_eq (by simp)) (Slots.cons rfl (by first | exact .refl _ | exact .nilOwn _ _ | exact .nilSl _ | exact .ownSl _ _ _  | exact SV.le.of_eq (by simp)) (Slots.cons rfl (by first | exact .refl _ | exact .nilOwn _ _ | exact .nilSl _ | exact .ownSl _ _ _  | exact SV.le.of_eq (by simp)) (Slots.cons rfl (by first | exact .refl _ | exact .nilOwn _ _ | exact .nilSl _ | exact .ownSl _ _ _  | exact SV.le.of_eq (by simp)) (Slots.cons rfl (by first | exact .refl _ | exact .nilOwn _ _ | exact .nilSl _ | exact .ownSl _ _ _  | exact SV.le.of_eq (by simp)) Slots.nil))))), (by first | exact List.Sublist.refl _ | exact .cons_cons _ (.cons _ (.refl _)) | exact List.nil_sublist _ | exact .cons _ (.refl _) | exact .cons _ (.cons _ (.refl _)) | exact .cons _ (.cons _ (.cons _ (.refl _))) | exact .cons _ (.cons _ (.cons _ (.cons _ (.refl _)))) | exact .cons_cons _ (List.nil_sublist _))⟩, (by omega), ⟨k + 1, m2, rfl, rfl, (by omega), (fun i hi => by rcases Nat.lt_succ_iff_lt_or_eq.1 hi with h | rfl; exact hall i h; exact hgood), hn2, hm2⟩⟩
     ·
      have hns : namesC x = [x.name] := by simp [namesC, (by simpa using hc3 : ¬ x.kind = 4)]
      have hnsl : (namesC x).length ≤ 2 := by rw [hns]; simp
      refine awp_skip ?_
      refine x_then ?_
      refine awp_seq ?_
      refine awp_region ?_
      refine r_move rfl rfl ?_
      refine r_lenS rfl rfl TF.sl54 rfl ?_
      refine r_move rfl rfl ?_
      refine awl_nil ?_
      refine x_then ?_
      refine awp_block ?_
      refine awp_loop (fun nn0 S => ∃ j : Nat, ∃ m2 : List (ByteArray × Bool), S = ⟨87, [(0, .a (fcsA d)), (3, .a (.v (.map (some b9)))), (10, .a (fcsA d)), (11, .a (.v (.int .i64 ((d.map FC.cs).length)))), (12, .a (.v (.int .i64 ((k : Int))))), (74, .a (strsA (namesC x))), (75, .a (.v (.int .i64 (((namesC x).map (fun s : ByteArray => [AV.v (.string s)])).length)))), (76, .a (.v (.int .i64 ((j : Int)))))], [⟨b9, true, .map (encM Value.string boolA m2)⟩]⟩ ∧ nn0 = (namesC x).length - j ∧ (j ≤ (namesC x).length) ∧ (((d.take k).flatMap namesC ++ (namesC x).take j).Nodup) ∧ (HasS m2 ((d.take k).flatMap namesC ++ (namesC x).take j))) ((namesC x).length - (0)) ⟨87, [(0, .a (fcsA d)), (3, .a (.v (.map (some b9)))), (10, .a (fcsA d)), (11, .a (.v (.int .i64 ((d.map FC.cs).length)))), (12, .a (.v (.int .i64 ((k : Int))))), (74, .a (strsA (namesC x))), (75, .a (.v (.int .i64 (((namesC x).map (fun s : ByteArray => [AV.v (.string s)])).length)))), (76, .a (.v (.int .i64 (((0) : Int)))))], [⟨b9, true, .map (encM Value.string boolA (m))⟩]⟩ ⟨rfl, (Slots.cons rfl (by first | exact .refl _ | exact .nilOwn _ _ | exact .nilSl _ | exact .ownSl _ _ _  | exact SV.le.ownEq (by first | rfl | (rw [hns]; rfl) | (rw [hns]; simp [chunks])) | exact SV.le.of_eq (by first | rfl | (rw [hns]; rfl) | (rw [hns]; simp [chunks]))) (Slots.cons rfl (by first | exact .refl _ | exact .nilOwn _ _ | exact .nilSl _ | exact .ownSl _ _ _  | exact SV.le.ownEq (by first | rfl | (rw [hns]; rfl) | (rw [hns]; simp [chunks])) | exact SV.le.of_eq (by first | rfl | (rw [hns]; rfl) | (rw [hns]; simp [chunks]))) (Slots.cons rfl (by first | exact .refl _ | exact .nilOwn _ _ | exact .nilSl _ | exact .ownSl _ _ _  | exact SV.le.ownEq (by first | rfl | (rw [hns]; rfl) | (rw [hns]; simp [chunks])) | exact SV.le.of_eq (by first | rfl | (rw [hns]; rfl) | (rw [hns]; simp [chunks]))) (Slots.cons rfl (by first | exact .refl _ | exact .nilOwn _ _ | exact .nilSl _ | exact .ownSl _ _ _  | exact SV.le.ownEq (by first | rfl | (rw [hns]; rfl) | (rw [hns]; simp [chunks])) | exact SV.le.of_eq (by first | rfl | (rw [hns]; rfl) | (rw [hns]; simp [chunks]))) (Slots.cons rfl (by first | exact .refl _ | exact .nilOwn _ _ | exact .nilSl _ | exact .ownSl _ _ _  | exact SV.le.ownEq (by first | rfl | (rw [hns]; rfl) | (rw [hns]; simp [chunks])) | exact SV.le.of_eq (by first | rfl | (rw [hns]; rfl) | (rw [hns]; simp [chunks]))) (Slots.cons rfl (by first | exact .refl _ | exact .nilOwn _ _ | exact .nilSl _ | exact .ownSl _ _ _  | exact SV.le.ownEq (by first | rfl | (rw [hns]; rfl) | (rw [hns]; simp [chunks])) | exact SV.le.of_eq (by first | rfl | (rw [hns]; rfl) | (rw [hns]; simp [chunks]))) (Slots.cons rfl (by first | exact .refl _ | exact .nilOwn _ _ | exact .nilSl _ | exact .ownSl _ _ _  | exact SV.le.ownEq (by first | rfl | (rw [hns]; rfl) | (rw [hns]; simp [chunks])) | exact SV.le.of_eq (by first | rfl | (rw [hns]; rfl) | (rw [hns]; simp [chunks]))) (Slots.cons rfl (by first | exact .refl _ | exact .nilOwn _ _ | exact .nilSl _ | exact .ownSl _ _ _  | exact SV.le.ownEq (by first | rfl | (rw [hns]; rfl) | (rw [hns]; simp [chunks])) | exact SV.le.of_eq (by first | rfl | (rw [hns]; rfl) | (rw [hns]; simp [chunks]))) Slots.nil)))))))), (by first | exact List.Sublist.refl _ | exact .cons_cons _ (.cons _ (.refl _)) | exact List.nil_sublist _ | exact .cons _ (.refl _) | exact .cons _ (.cons _ (.refl _)) | exact .cons _ (.cons _ (.cons _ (.refl _))) | exact .cons _ (.cons _ (.cons _ (.cons _ (.refl _)))) | exact .cons_cons _ (List.nil_sublist _))⟩ ⟨0, m, rfl, rfl, Nat.zero_le _, (by simpa using hnd), (by simpa using hm)⟩ ?_
      rintro nn0 _ ⟨j, m2, rfl, rfl, hj, hn2, hm2⟩
      refine awp_seq ?_
      refine awp_region ?_
      refine r_cmp rfl rfl rfl rfl ?_
      refine awl_nil ?_
      refine x_then ?_
      refine awp_seq ?_
      refine awp_cond rfl (fun hc4 => ?_) (fun hc4 => ?_)
      ·
       have hlts : j < (namesC x).length := by have := of_decide_eq_true hc4; rw [List.length_map] at this; omega
       obtain ⟨s, hs⟩ := get_lt hlts
       refine awp_skip ?_
       refine x_then ?_
       refine awp_seq ?_
       refine awp_block ?_
       refine awp_seq ?_
       refine awp_region ?_
       refine r_index rfl rfl rfl TF.sl54 TF.sz9 (by omega) (get_map hs) rfl ?_
       refine r_load1 rfl TF.agg9 rfl ?_
       refine r_assign rfl rfl ?_
       refine awl_nil ?_
       refine x_then ?_
       refine awp_seq ?_
       refine awp_seq ?_
       refine awp_region ?_
       refine r_move rfl rfl ?_
       refine r_move rfl rfl ?_
       refine r_lookup 0 (keyEnc_string TF.un9) (ev := boolA) false rfl rfl rfl TF.map100 TF.zav4 rfl ?_
       refine awl_nil ?_
       refine x_then ?_
       refine awp_cond rfl (fun hc5 => ?_) (fun hc5 => ?_)
       ·
        refine awp_seq ?_
        refine awp_region ?_
        refine r_assign rfl rfl ?_
        refine awl_nil ?_
        refine x_then ?_
        refine awp_ret ?_
        refine x_thenR ?_
        refine x_blockR ?_
        refine x_thenR ?_
        refine x_thenR ?_
        refine x_blockR ?_
        refine x_blockR ?_
        refine x_thenR ?_
        refine x_thenR ?_
        refine x_blockR ?_
        refine x_thenR ?_
        exact ⟨(.inl rfl), _, [], (.one (by first | exact .mk rfl rfl | exact .nil rfl)), ⟨rfl, by first | (rw [right_bad hltx hbad]; rfl) | (rw [right_dup hx hs ((hm2 s).1 hc5)]; rfl) | (rw [right_good (fun i hi => hall i (by omega)) hnd]; rfl)⟩, (List.nil_sublist _), (by simp)⟩
       ·
        refine awp_skip ?_
        refine x_then ?_
        refine awp_region ?_
        refine r_move rfl rfl ?_
        refine r_move rfl rfl ?_
        refine r_mapUpdate 0 (keyEnc_string TF.un9) (ev := boolA) true rfl rfl rfl rfl rfl TF.map100 ?_
        refine awl_nil ?_
        refine x_block ?_
        refine x_then ?_
        refine awp_region ?_
        refine r_ari _ rfl rfl rfl (wrap_id (by first | omega | (simp; omega))) rfl ?_
        refine r_move rfl rfl ?_
        refine awl_nil ?_
        refine x_then ?_
        refine ⟨(namesC x).length - (j + 1), ⟨87, [(0, .a (fcsA d)), (3, .a (.v (.map (some b9)))), (10, .a (fcsA d)), (11, .a (.v (.int .i64 ((d.map FC.cs).length)))), (12, .a (.v (.int .i64 ((k : Int))))), (74, .a (strsA (namesC x))), (75, .a (.v (.int .i64 (((namesC x).map (fun s : ByteArray => [AV.v (.string s)])).length)))), (76, .a (.v (.int .i64 (((j + 1) : Int)))))], [⟨b9, true, .map (encM Value.string boolA ((mset m2 s true)))⟩]⟩, ⟨rfl, (Slots.cons rfl (by first | exact .refl _ | exact .nilOwn _ _ | exact .nilSl _ | exact .ownSl _ _ _  | exact SV.le.of_eq (by simp)) (Slots.cons rfl (by first | exact .refl _ | exact .nilOwn _ _ | exact .nilSl _ | exact .ownSl _ _ _  | exact SV.le.of_eq (by simp)) (Slots.cons rfl (by first | exact .refl _ | exact .nilOwn _ _ | exact .nilSl _ | exact .ownSl _ _ _  | exact SV.le.of_eq (by simp)) (Slots.cons rfl (by first | exact .refl _ | exact .nilOwn _ _ | exact .nilSl _ | exact .ownSl _ _ _  | exact SV.le.of_eq (by simp)) (Slots.cons rfl (by first | exact .refl _ | exact .nilOwn _ _ | exact .nilSl _ | exact .ownSl _ _ _  | exact SV.le.of_eq (by simp)) (Slots.cons rfl (by first | exact .refl _ | exact .nilOwn _ _ | exact .nilSl _ | exact .ownSl _ _ _  | exact SV.le.of_eq (by simp)) (Slots.cons rfl (by first | exact .refl _ | exact .nilOwn _ _ | exact .nilSl _ | exact .ownSl _ _ _  | exact SV.le.of_eq (by simp)) (Slots.cons rfl (by first | exact .refl _ | exact .nilOwn _ _ | exact .nilSl _ | exact .ownSl _ _ _  | exact SV.le.of_eq (by simp)) Slots.nil)))))))), (by first | exact List.Sublist.refl _ | exact .cons_cons _ (.cons _ (.refl _)) | exact List.nil_sublist _ | exact .cons _ (.refl _) | exact .cons _ (.cons _ (.refl _)) | exact .cons _ (.cons _ (.cons _ (.refl _))) | exact .cons _ (.cons _ (.cons _ (.cons _ (.refl _)))) | exact .cons_cons _ (List.nil_sublist _))⟩, (by omega), ⟨j + 1, (mset m2 s true), rfl, rfl, (by omega), (by rw [takeS hs, ← List.append_assoc]; exact nodup_snoc hn2 (fun h => by rw [(hm2 s).2 h] at hc5; cases hc5)), (by rw [takeS hs, ← List.append_assoc]; exact hasS_set hm2)⟩⟩
      ·
       have hge : (namesC x).length ≤ j := by have := of_decide_eq_false hc4; rw [List.length_map] at this; omega
       rw [List.take_of_length_le hge, ← names_take hx] at hn2 hm2
       refine awp_exit ?_
       refine x_thenE ?_
       refine x_thenE ?_
       refine x_blockE ?_
       refine x_block ?_
       refine x_then ?_
       refine awp_region ?_
       refine r_ari _ rfl rfl rfl (wrap_id (by first | omega | (simp; omega))) rfl ?_
       refine r_move rfl rfl ?_
       refine awl_nil ?_
       refine x_then ?_
       refine ⟨d.length - (k + 1), ⟨87, [(0, .a (fcsA d)), (3, .a (.v (.map (some b9)))), (10, .a (fcsA d)), (11, .a (.v (.int .i64 ((d.map FC.cs).length)))), (12, .a (.v (.int .i64 (((k + 1) : Int)))))], [⟨b9, true, .map (encM Value.string boolA (m2))⟩]⟩, ⟨rfl, (Slots.cons rfl (by first | exact .refl _ | exact .nilOwn _ _ | exact .nilSl _ | exact .ownSl _ _ _  | exact SV.le.of_eq (by simp)) (Slots.cons rfl (by first | exact .refl _ | exact .nilOwn _ _ | exact .nilSl _ | exact .ownSl _ _ _  | exact SV.le.of_eq (by simp)) (Slots.cons rfl (by first | exact .refl _ | exact .nilOwn _ _ | exact .nilSl _ | exact .ownSl _ _ _  | exact SV.le.of_eq (by simp)) (Slots.cons rfl (by first | exact .refl _ | exact .nilOwn _ _ | exact .nilSl _ | exact .ownSl _ _ _  | exact SV.le.of_eq (by simp)) (Slots.cons rfl (by first | exact .refl _ | exact .nilOwn _ _ | exact .nilSl _ | exact .ownSl _ _ _  | exact SV.le.of_eq (by simp)) Slots.nil))))), (by first | exact List.Sublist.refl _ | exact .cons_cons _ (.cons _ (.refl _)) | exact List.nil_sublist _ | exact .cons _ (.refl _) | exact .cons _ (.cons _ (.refl _)) | exact .cons _ (.cons _ (.cons _ (.refl _))) | exact .cons _ (.cons _ (.cons _ (.cons _ (.refl _)))) | exact .cons_cons _ (List.nil_sublist _))⟩, (by omega), ⟨k + 1, m2, rfl, rfl, (by omega), (fun i hi => by rcases Nat.lt_succ_iff_lt_or_eq.1 hi with h | rfl; exact hall i h; exact hgood), hn2, hm2⟩⟩
 ·
  have hge : d.length ≤ k := by have := of_decide_eq_false hc0; simp at this; omega
  rw [List.take_of_length_le hge] at hnd
  refine awp_exit ?_
  refine x_thenE ?_
  refine x_thenE ?_
  refine x_blockE ?_
  refine x_then ?_
  refine awp_seq ?_
  refine awp_region ?_
  refine r_assign rfl rfl ?_
  refine awl_nil ?_
  refine x_then ?_
  refine awp_ret ?_
  exact ⟨(.inl rfl), _, [], (.one (by first | exact .mk rfl rfl | exact .nil rfl)), ⟨rfl, by first | (rw [right_bad hltx hbad]; rfl) | (rw [right_dup hx hs ((hm2 s).1 hc5)]; rfl) | (rw [right_good (fun i hi => hall i (by omega)) hnd]; rfl)⟩, (List.nil_sublist _), (by simp)⟩
end Go.Proofs.YtcbhhjahjnlfhaaDoor.A
namespace Go.Proofs.YtcbhhjahjnlfhaaDoor.A
open Go Go.RowKit
set_option linter.unusedVariables false
set_option linter.unusedSimpArgs false
set_option maxRecDepth 100000
theorem TF.sl65 : sliceT Tryd.prog 65 = some 71 := by kernel_rfl
theorem TF.sz71 : szT Tryd.prog 71 = some 2 := by kernel_rfl
theorem TF.agg71 : aggT Tryd.prog 71 = some true := by kernel_rfl
theorem TF.zero71 : ZeroT Tryd.prog 71 [.v (.string ⟨#[]⟩), .sl 1 []] := ⟨[(.string ⟨#[]⟩), (.slice none 0 0)], by kernel_rfl, (.cons (.refl _) (.cons (.nil 1) .nil))⟩
theorem TF.f71_0 : fieldT Tryd.prog 71 0 = some (0, 9) := by kernel_rfl
theorem TF.f71_1 : fieldT Tryd.prog 71 1 = some (1, 22) := by kernel_rfl
theorem TF.en18 : entersT Tryd.prog 18 := enters_of Tryd.func18 (by kernel_rfl) (by kernel_rfl)
theorem TF.en28 : entersT Tryd.prog 28 := enters_of Tryd.func28 (by kernel_rfl) (by kernel_rfl)
theorem TF.en63 : entersT Tryd.prog 63 := enters_of Tryd.func63 (by kernel_rfl) (by kernel_rfl)
theorem files_ok (l : List File) (hl : l.length ≤ 1000000) (hda : ∀ f ∈ l, f.data.length ≤ 1000000) : AC Tryd.prog 23 [files l] [] (fun r n => n = [] ∧ r = files l) := by
 refine ac_of_awp (rs := [2]) (nt := 24) Tryd.func23 rfl rfl rfl rfl (fun w0 C0 hq => ?_)
 refine awp_seq ?_
 refine awp_region ?_
 refine r_assign rfl rfl ?_
 refine awl_nil ?_
 refine x_then ?_
 refine awp_seq ?_
 refine awp_region ?_
 refine r_assign rfl rfl ?_
 refine awl_nil ?_
 refine x_then ?_
 refine awp_seq ?_
 refine awp_seq ?_
 refine awp_region ?_
 refine r_move rfl rfl ?_
 refine r_lenS rfl rfl TF.sl65 rfl ?_
 refine r_move rfl rfl ?_
 refine awl_nil ?_
 refine x_then ?_
 refine awp_block ?_
 refine awp_loop (fun nn0 S => ∃ k : Nat, S = ⟨24, [(3, .own 3 2 ((l.take k).map File.cs)), (6, .a (files l)), (7, .a (.v (.int .i64 ((l.map File.cs).length)))), (8, .a (.v (.int .i64 ((k : Int)))))], []⟩ ∧ nn0 = l.length - k ∧ (k ≤ l.length)) (l.length - (0)) ⟨24, [(3, .own 3 2 ((l.take (0)).map File.cs)), (6, .a (files l)), (7, .a (.v (.int .i64 ((l.map File.cs).length)))), (8, .a (.v (.int .i64 (((0) : Int)))))], []⟩ ⟨rfl, (Slots.cons rfl (by first | exact .refl _ | exact .nilOwn _ _ | exact .nilSl _ | exact .ownSl _ _ _  | exact SV.le.of_eq (by simp)) (Slots.cons rfl (by first | exact .refl _ | exact .nilOwn _ _ | exact .nilSl _ | exact .ownSl _ _ _  | exact SV.le.of_eq (by simp)) (Slots.cons rfl (by first | exact .refl _ | exact .nilOwn _ _ | exact .nilSl _ | exact .ownSl _ _ _  | exact SV.le.of_eq (by simp)) (Slots.cons rfl (by first | exact .refl _ | exact .nilOwn _ _ | exact .nilSl _ | exact .ownSl _ _ _  | exact SV.le.of_eq (by simp)) Slots.nil)))), (by first | exact List.Sublist.refl _ | exact .cons_cons _ (.cons _ (.refl _)) | exact List.nil_sublist _ | exact .cons _ (.refl _) | exact .cons _ (.cons _ (.refl _)) | exact .cons _ (.cons _ (.cons _ (.refl _))) | exact .cons _ (.cons _ (.cons _ (.cons _ (.refl _)))) | exact .cons_cons _ (List.nil_sublist _))⟩ ⟨0, rfl, rfl, Nat.zero_le _⟩ ?_
 rintro nn0 _ ⟨k, rfl, rfl, hk⟩
 refine awp_seq ?_
 refine awp_region ?_
 refine r_cmp rfl rfl rfl rfl ?_
 refine awl_nil ?_
 refine x_then ?_
 refine awp_seq ?_
 refine awp_cond rfl (fun hc0 => ?_) (fun hc0 => ?_)
 ·
  have hltx : k < l.length := by have := of_decide_eq_true hc0; simpa using this
  obtain ⟨x, hx⟩ := get_lt hltx
  have hxd := hda x (List.mem_of_getElem? hx)
  refine awp_skip ?_
  refine x_then ?_
  refine awp_seq ?_
  refine awp_block ?_
  refine awp_seq ?_
  refine awp_region ?_
  refine r_index rfl rfl rfl TF.sl65 TF.sz71 (by omega) (get_map hx) rfl ?_
  refine r_loadA rfl TF.agg71 TF.sz71 rfl rfl ?_
  refine r_alloc TF.zero71 rfl (fun b5 => ?_)
  refine r_store 0 rfl rfl rfl TF.sz71 rfl rfl rfl ?_
  refine awl_nil ?_
  refine x_then ?_
  refine awp_drawS [12, 13, 14, 15, 16, 17, 18, 19, 20] [_, _, _, _, _, _, _, _, _] [[], [], [], [], [], [], [15]] [(3, 15), (6, 15), (8, 20)] TF.mixed rfl rfl rfl ⟨⟨⟨⟨⟨⟨⟨⟨⟨trivial
   , ⟨_, rfl, fun sl hd hr ho => by
     refine r_move (hr 3 _ rfl rfl rfl) rfl ?_
     exact awl_nil ⟨rfl, post_put⟩⟩⟩
   , ⟨_, rfl, fun sl hd hr ho => by
     refine r_fieldb (hr 5 _ rfl rfl rfl) TF.f71_0 TF.sz9 rfl ?_
     exact awl_nil ⟨rfl, post_put⟩⟩⟩
   , ⟨_, rfl, fun sl hd hr ho => by
     refine r_load1b 0 (hd 1 _ rfl rfl rfl) rfl rfl TF.agg9 rfl ?_
     exact awl_nil ⟨rfl, post_put⟩⟩⟩
   , ⟨_, rfl, fun sl hd hr ho => by
     refine r_lit 15 (parts := []) rfl TF.sl22 TF.sz5 TF.zraw5 rfl rfl parts_nil rfl rfl rfl rfl ?_
     exact awl_nil ⟨rfl, (post_dem (ho 15 (List.mem_of_elem_eq_true rfl)))⟩⟩⟩
   , ⟨_, rfl, fun sl hd hr ho => by
     refine r_fieldb (hr 5 _ rfl rfl rfl) TF.f71_1 TF.sz22 rfl ?_
     exact awl_nil ⟨rfl, post_put⟩⟩⟩
   , ⟨_, rfl, fun sl hd hr ho => by
     refine r_load1b 0 (hd 4 _ rfl rfl rfl) rfl rfl TF.agg22 rfl ?_
     exact awl_nil ⟨rfl, post_put⟩⟩⟩
   , ⟨_, rfl, fun sl hd hr ho => by
     refine r_append 15 (hd 3 _ rfl rfl rfl) (by first | exact .own _ | exact .nil) (hd 5 _ rfl rfl rfl) (by first | exact .sl _ | exact .own _ _ | exact .nil) TF.sl22 TF.sz5 (by decide) TF.by5 TF.zlen5 (by simp [chunks, u8s]; omega) (by simp [chunks, u8s]; omega) rfl ?_
     exact awl_nil ⟨rfl, (post_dem (ho 15 (List.mem_of_elem_eq_true rfl)))⟩⟩⟩
   , ⟨_, rfl, fun sl hd hr ho => by
     refine r_build (parts := [(0, .tmp 14), (1, .tmp 18)]) rfl TF.pl26 TF.zero26 (parts_cons (hd 2 _ rfl rfl rfl) (parts_cons (hd 6 _ rfl rfl rfl) parts_nil)) rfl rfl ?_
     exact awl_nil ⟨rfl, post_put⟩⟩⟩
   , ⟨_, rfl, fun sl hd hr ho => by
     refine r_lit 20 (parts := [(0, .tmp 19)]) rfl TF.sl24 TF.sz26 TF.zraw26 rfl rfl (parts_cons (hd 7 _ rfl rfl rfl) parts_nil) rfl rfl rfl rfl ?_
     exact awl_nil ⟨rfl, (post_dem (ho 20 (List.mem_of_elem_eq_true rfl)))⟩⟩⟩
   (by rfl) ?_
  refine r_append 3 rfl (by first | exact .own _ | exact .nil) rfl (by first | exact .sl _ | exact .own _ _ | exact .nil) TF.sl24 TF.sz26 (by decide) TF.by26 TF.zlen26 (by simp [chunks] <;> omega) (by simp [chunks] <;> omega) rfl ?_
  refine r_assign rfl rfl ?_
  refine awl_nil ?_
  refine x_block ?_
  refine x_then ?_
  refine awp_region ?_
  refine r_ari _ rfl rfl rfl (wrap_id (by first | omega | (simp; omega))) rfl ?_
  refine r_move rfl rfl ?_
  refine awl_nil ?_
  refine x_then ?_
  refine ⟨l.length - (k + 1), ⟨24, [(3, .own 3 2 ((l.take (k + 1)).map File.cs)), (6, .a (files l)), (7, .a (.v (.int .i64 ((l.map File.cs).length)))), (8, .a (.v (.int .i64 (((k + 1) : Int)))))], []⟩, ⟨rfl, (Slots.cons rfl (by first | exact .refl _ | exact .nilOwn _ _ | exact .nilSl _ | exact .ownSl _ _ _  | exact SV.le.ownEq (by first | rfl | (rw [takeS hx, List.map_append]; rfl) | (rw [takeS hx, List.map_append]; simp [chunks, File.cs, bts, SV.av])) | exact SV.le.of_eq (by first | rfl | (rw [takeS hx, List.map_append]; rfl) | (rw [takeS hx, List.map_append]; simp [chunks, File.cs, bts, SV.av]))) (Slots.cons rfl (by first | exact .refl _ | exact .nilOwn _ _ | exact .nilSl _ | exact .ownSl _ _ _  | exact SV.le.ownEq (by first | rfl | (rw [takeS hx, List.map_append]; rfl) | (rw [takeS hx, List.map_append]; simp [chunks, File.cs, bts, SV.av])) | exact SV.le.of_eq (by first | rfl | (rw [takeS hx, List.map_append]; rfl) | (rw [takeS hx, List.map_append]; simp [chunks, File.cs, bts, SV.av]))) (Slots.cons rfl (by first | exact .refl _ | exact .nilOwn _ _ | exact .nilSl _ | exact .ownSl _ _ _  | exact SV.le.ownEq (by first | rfl | (rw [takeS hx, List.map_append]; rfl) | (rw [takeS hx, List.map_append]; simp [chunks, File.cs, bts, SV.av])) | exact SV.le.of_eq (by first | rfl | (rw [takeS hx, List.map_append]; rfl) | (rw [takeS hx, List.map_append]; simp [chunks, File.cs, bts, SV.av]))) (Slots.cons rfl (by first | exact .refl _ | exact .nilOwn _ _ | exact .nilSl _ | exact .ownSl _ _ _  | exact SV.le.ownEq (by first | rfl | (rw [takeS hx, List.map_append]; rfl) | (rw [takeS hx, List.map_append]; simp [chunks, File.cs, bts, SV.av])) | exact SV.le.of_eq (by first | rfl | (rw [takeS hx, List.map_append]; rfl) | (rw [takeS hx, List.map_append]; simp [chunks, File.cs, bts, SV.av]))) Slots.nil)))), (by first | exact List.Sublist.refl _ | exact .cons_cons _ (.cons _ (.refl _)) | exact List.nil_sublist _ | exact .cons _ (.refl _) | exact .cons _ (.cons _ (.refl _)) | exact .cons _ (.cons _ (.cons _ (.refl _))) | exact .cons _ (.cons _ (.cons _ (.cons _ (.refl _)))) | exact .cons_cons _ (List.nil_sublist _))⟩, (by omega), ⟨k + 1, rfl, rfl, (by omega)⟩⟩
 ·
  have hge : l.length ≤ k := by have := of_decide_eq_false hc0; simp at this; omega
  have hkl : l.take k = l := List.take_of_length_le hge
  refine awp_exit ?_
  refine x_thenE ?_
  refine x_thenE ?_
  refine x_blockE ?_
  refine x_then ?_
  refine awp_seq ?_
  refine awp_region ?_
  refine r_move rfl rfl ?_
  refine r_assign rfl rfl ?_
  refine awl_nil ?_
  refine x_then ?_
  refine awp_ret ?_
  exact ⟨(.inl rfl), _, [], (.one (by first | exact .mk rfl rfl | exact .nil rfl)), ⟨rfl, by rw [hkl]; rfl⟩, (List.nil_sublist _), (by simp)⟩
theorem small_ok (l : List File) : AC Tryd.prog 21 [files l] [] (fun r n => n = [] ∧ (r = .v (.int .i64 0) ∨ (r = .v (.int .i64 1) ∧ l.length ≤ 12 ∧ ∀ f ∈ l, f.name.size ≤ 40 ∧ f.data.length ≤ 300))) := by
 refine ac_of_awp (rs := [2]) (nt := 25) Tryd.func21 rfl rfl rfl rfl (fun w0 C0 hq => ?_)
 refine awp_seq ?_
 refine awp_region ?_
 refine r_assign rfl rfl ?_
 refine awl_nil ?_
 refine x_then ?_
 refine awp_seq ?_
 refine awp_seq ?_
 refine awp_region ?_
 refine r_move rfl rfl ?_
 refine r_lenS rfl rfl TF.sl65 rfl ?_
 refine r_cmp rfl rfl rfl rfl ?_
 refine awl_nil ?_
 refine x_then ?_
 refine awp_cond rfl (fun hc0 => ?_) (fun hc0 => ?_)
 ·
  refine awp_seq ?_
  refine awp_region ?_
  refine r_assign rfl rfl ?_
  refine awl_nil ?_
  refine x_then ?_
  refine awp_ret ?_
  refine x_thenR ?_
  exact ⟨(.inl rfl), _, [], (.one (by first | exact .mk rfl rfl | exact .nil rfl)), ⟨rfl, by first | exact .inl rfl | exact .inr ⟨rfl, hl12, all_end hge hq2⟩⟩, (List.nil_sublist _), (by simp)⟩
 ·
  have hl12 : l.length ≤ 12 := by have := of_decide_eq_false hc0; simp at this; omega
  have hl : l.length ≤ 1000000 := by omega
  refine awp_skip ?_
  refine x_then ?_
  refine awp_seq ?_
  refine awp_seq ?_
  refine awp_region ?_
  refine r_move rfl rfl ?_
  refine r_lenS rfl rfl TF.sl65 rfl ?_
  refine r_move rfl rfl ?_
  refine awl_nil ?_
  refine x_then ?_
  refine awp_block ?_
  refine awp_loop (fun nn0 S => ∃ k : Nat, S = ⟨25, [(8, .a (files l)), (9, .a (.v (.int .i64 ((l.map File.cs).length)))), (10, .a (.v (.int .i64 ((k : Int)))))], []⟩ ∧ nn0 = l.length - k ∧ (k ≤ l.length) ∧ (∀ f ∈ l.take k, f.name.size ≤ 40 ∧ f.data.length ≤ 300)) (l.length - (0)) ⟨25, [(8, .a (files l)), (9, .a (.v (.int .i64 ((l.map File.cs).length)))), (10, .a (.v (.int .i64 (((0) : Int)))))], []⟩ ⟨rfl, (Slots.cons rfl (by first | exact .refl _ | exact .nilOwn _ _ | exact .nilSl _ | exact .ownSl _ _ _  | exact SV.le.of_eq (by simp)) (Slots.cons rfl (by first | exact .refl _ | exact .nilOwn _ _ | exact .nilSl _ | exact .ownSl _ _ _  | exact SV.le.of_eq (by simp)) (Slots.cons rfl (by first | exact .refl _ | exact .nilOwn _ _ | exact .nilSl _ | exact .ownSl _ _ _  | exact SV.le.of_eq (by simp)) Slots.nil))), (by first | exact List.Sublist.refl _ | exact .cons_cons _ (.cons _ (.refl _)) | exact List.nil_sublist _ | exact .cons _ (.refl _) | exact .cons _ (.cons _ (.refl _)) | exact .cons _ (.cons _ (.cons _ (.refl _))) | exact .cons _ (.cons _ (.cons _ (.cons _ (.refl _)))) | exact .cons_cons _ (List.nil_sublist _))⟩ ⟨0, rfl, rfl, Nat.zero_le _, (fun f hf => by simp at hf)⟩ ?_
  rintro nn0 _ ⟨k, rfl, rfl, hk, hq2⟩
  refine awp_seq ?_
  refine awp_region ?_
  refine r_cmp rfl rfl rfl rfl ?_
  refine awl_nil ?_
  refine x_then ?_
  refine awp_seq ?_
  refine awp_cond rfl (fun hc1 => ?_) (fun hc1 => ?_)
  ·
   have hltx : k < l.length := by have := of_decide_eq_true hc1; simpa using this
   obtain ⟨x, hx⟩ := get_lt hltx
   refine awp_skip ?_
   refine x_then ?_
   refine awp_seq ?_
   refine awp_block ?_
   refine awp_seq ?_
   refine awp_region ?_
   refine r_index rfl rfl rfl TF.sl65 TF.sz71 (by omega) (get_map hx) rfl ?_
   refine r_loadA rfl TF.agg71 TF.sz71 rfl rfl ?_
   refine r_alloc TF.zero71 rfl (fun b4 => ?_)
   refine r_store 0 rfl rfl rfl TF.sz71 rfl rfl rfl ?_
   refine awl_nil ?_
   refine x_then ?_
   refine awp_seq ?_
   refine awp_region ?_
   refine r_fieldb rfl TF.f71_0 TF.sz9 rfl ?_
   refine r_load1b 0 rfl rfl rfl TF.agg9 rfl ?_
   refine r_lenStr rfl TF.un9 rfl ?_
   refine r_cmp rfl rfl rfl rfl ?_
   refine r_move rfl rfl ?_
   refine g_cases (t' := 18) rfl (fun hg18 => ?_) (fun hg18 => ?_)
   ·
    refine g_skip rfl rfl hg18 rfl ?_
    refine g_skip rfl rfl hg18 rfl ?_
    refine g_skip rfl rfl hg18 rfl ?_
    refine g_skip rfl rfl hg18 rfl ?_
    refine r_pickT rfl hg18 rfl rfl ?_
    refine awl_nil ?_
    refine x_then ?_
    refine awp_condT rfl ?_
    refine awp_seq ?_
    refine awp_region ?_
    refine r_assign rfl rfl ?_
    refine awl_nil ?_
    refine x_then ?_
    refine awp_ret ?_
    refine x_blockR ?_
    refine x_thenR ?_
    refine x_thenR ?_
    refine x_blockR ?_
    refine x_thenR ?_
    exact ⟨(.inl rfl), _, [], (.one (by first | exact .mk rfl rfl | exact .nil rfl)), ⟨rfl, by first | exact .inl rfl | exact .inr ⟨rfl, hl12, all_end hge hq2⟩⟩, (List.nil_sublist _), (by simp)⟩
   ·
    have hxn : x.name.size ≤ 40 := by have := of_decide_eq_false hg18; omega
    refine g_run rfl rfl hg18 ?_
    refine r_fieldb rfl TF.f71_1 TF.sz22 rfl ?_
    refine g_run rfl rfl hg18 ?_
    refine r_load1b 0 rfl rfl rfl TF.agg22 rfl ?_
    refine g_run rfl rfl hg18 ?_
    refine r_lenS rfl rfl TF.sl22 rfl ?_
    refine g_run rfl rfl hg18 ?_
    refine r_cmp rfl rfl rfl rfl ?_
    refine r_pickF rfl hg18 rfl rfl ?_
    refine awl_nil ?_
    refine x_then ?_
    refine awp_cond rfl (fun hc2 => ?_) (fun hc2 => ?_)
    ·
     refine awp_seq ?_
     refine awp_region ?_
     refine r_assign rfl rfl ?_
     refine awl_nil ?_
     refine x_then ?_
     refine awp_ret ?_
     refine x_blockR ?_
     refine x_thenR ?_
     refine x_thenR ?_
     refine x_blockR ?_
     refine x_thenR ?_
     exact ⟨(.inl rfl), _, [], (.one (by first | exact .mk rfl rfl | exact .nil rfl)), ⟨rfl, by first | exact .inl rfl | exact .inr ⟨rfl, hl12, all_end hge hq2⟩⟩, (List.nil_sublist _), (by simp)⟩
    ·
     have hxd : x.data.length ≤ 300 := by have := of_decide_eq_false hc2; rw [u8s_len] at this; omega
     refine awp_skip ?_
     refine x_block ?_
     refine x_then ?_
     refine awp_region ?_
     refine r_ari _ rfl rfl rfl (wrap_id (by first | omega | (simp; omega))) rfl ?_
     refine r_move rfl rfl ?_
     refine awl_nil ?_
     refine x_then ?_
     refine ⟨l.length - (k + 1), ⟨25, [(8, .a (files l)), (9, .a (.v (.int .i64 ((l.map File.cs).length)))), (10, .a (.v (.int .i64 (((k + 1) : Int)))))], []⟩, ⟨rfl, (Slots.cons rfl (by first | exact .refl _ | exact .nilOwn _ _ | exact .nilSl _ | exact .ownSl _ _ _  | exact SV.le.of_eq (by simp)) (Slots.cons rfl (by first | exact .refl _ | exact .nilOwn _ _ | exact .nilSl _ | exact .ownSl _ _ _  | exact SV.le.of_eq (by simp)) (Slots.cons rfl (by first | exact .refl _ | exact .nilOwn _ _ | exact .nilSl _ | exact .ownSl _ _ _  | exact SV.le.of_eq (by simp)) Slots.nil))), (by first | exact List.Sublist.refl _ | exact .cons_cons _ (.cons _ (.refl _)) | exact List.nil_sublist _ | exact .cons _ (.refl _) | exact .cons _ (.cons _ (.refl _)) | exact .cons _ (.cons _ (.cons _ (.refl _))) | exact .cons _ (.cons _ (.cons _ (.cons _ (.refl _)))) | exact .cons_cons _ (List.nil_sublist _))⟩, (by omega), ⟨k + 1, rfl, rfl, (by omega), (all_takeS hx hq2 ⟨hxn, hxd⟩)⟩⟩
  ·
   have hge : l.length ≤ k := by have := of_decide_eq_false hc1; simp at this; omega
   refine awp_exit ?_
   refine x_thenE ?_
   refine x_thenE ?_
   refine x_blockE ?_
   refine x_then ?_
   refine awp_seq ?_
   refine awp_region ?_
   refine r_assign rfl rfl ?_
   refine awl_nil ?_
   refine x_then ?_
   refine awp_ret ?_
   exact ⟨(.inl rfl), _, [], (.one (by first | exact .mk rfl rfl | exact .nil rfl)), ⟨rfl, by first | exact .inl rfl | exact .inr ⟨rfl, hl12, all_end hge hq2⟩⟩, (List.nil_sublist _), (by simp)⟩
theorem applyOf_ok (a b : List File) (hla : a.length ≤ 1000) (hlb : b.length ≤ 1000) (hna : ∀ f ∈ a, f.name.size ≤ 1000000) (hnb : ∀ f ∈ b, f.name.size ≤ 1000000) (hda : ∀ f ∈ a, f.data.length ≤ 1000000) (hdb : ∀ f ∈ b, f.data.length ≤ 1000000) : AC Tryd.prog 28 [files a, fcsA (OfF a b)] [] (fun r n => n = [] ∧ r = .tup [files (cleanS b), .v (.int .i64 0)]) := by
  have hl := of_len a b
  refine (apply_ok a (OfF a b) hla (by omega) hna hda (of_bound hna hnb hdb)).mono fun r n h => ?_
  obtain ⟨m, h1, h2, h3, h4⟩ := apply_clean a b
  obtain ⟨rfl, ⟨m', k1, k2, rfl⟩ | ⟨e, m', k1, k2, rfl⟩⟩ := h
  · rw [h1] at k1; cases k1; exact ⟨rfl, by rw [h4]⟩
  · rw [h1] at k1; cases k1; exact absurd rfl k2
theorem aw_of : OfF [⟨⟨#[97]⟩, [120]⟩, ⟨⟨#[98]⟩, [121]⟩] [⟨⟨#[99]⟩, [120]⟩, ⟨⟨#[98]⟩, [122]⟩] = [⟨4, ⟨#[97]⟩, ⟨#[99]⟩, []⟩, ⟨3, ⟨#[98]⟩, E0, [122]⟩] := by kernel_rfl
theorem aw_clean : cleanS [⟨⟨#[99]⟩, [120]⟩, ⟨⟨#[98]⟩, [122]⟩] = [⟨⟨#[98]⟩, [122]⟩, ⟨⟨#[99]⟩, [120]⟩] := by kernel_rfl
theorem aw_right : rightF [⟨4, ⟨#[97]⟩, ⟨#[99]⟩, []⟩, ⟨3, ⟨#[98]⟩, E0, [122]⟩] = true := by kernel_rfl
set_option maxHeartbeats 1000000 in
theorem awake_ok : AC Tryd.prog 20 [] [] (fun r n => n = [] ∧ r = boolA true) := by
 refine ac_of_awp (rs := [0]) (nt := 106) Tryd.func20 rfl rfl rfl rfl (fun w0 C0 hq => ?_)
 refine awp_seq ?_
 refine awp_region ?_
 refine r_assign rfl rfl ?_
 refine awl_nil ?_
 refine x_then ?_
 refine awp_seq ?_
 refine awp_region ?_
 refine r_lit 6 (parts := [(0, .const ((Go.Value.int Go.IntKind.u8 120)))]) rfl TF.sl22 TF.sz5 TF.zraw5 rfl rfl rfl rfl rfl rfl rfl ?_
 refine r_convBB hq rfl 6 rfl (by simp [chunks]) TF.sl22 TF.un5 rfl ?_
 refine r_build (parts := [(0, .const ((Go.Value.string { data := #[97] }))), (1, .tmp 7)]) rfl TF.pl26 TF.zero26 rfl rfl rfl ?_
 refine r_lit 9 (parts := [(0, .const ((Go.Value.int Go.IntKind.u8 121)))]) rfl TF.sl22 TF.sz5 TF.zraw5 rfl rfl rfl rfl rfl rfl rfl ?_
 refine r_convBB hq rfl 9 rfl (by simp [chunks]) TF.sl22 TF.un5 rfl ?_
 refine r_build (parts := [(0, .const ((Go.Value.string { data := #[98] }))), (1, .tmp 10)]) rfl TF.pl26 TF.zero26 rfl rfl rfl ?_
 refine r_lit 12 (parts := [(0, .tmp 8), (1, .tmp 11)]) rfl TF.sl24 TF.sz26 TF.zraw26 rfl rfl rfl rfl rfl rfl rfl ?_
 refine r_assign rfl rfl ?_
 refine awl_nil ?_
 refine x_then ?_
 refine awp_seq ?_
 refine awp_region ?_
 refine r_lit 13 (parts := [(0, .const ((Go.Value.int Go.IntKind.u8 120)))]) rfl TF.sl22 TF.sz5 TF.zraw5 rfl rfl rfl rfl rfl rfl rfl ?_
 refine r_convBB hq rfl 13 rfl (by simp [chunks]) TF.sl22 TF.un5 rfl ?_
 refine r_build (parts := [(0, .const ((Go.Value.string { data := #[99] }))), (1, .tmp 14)]) rfl TF.pl26 TF.zero26 rfl rfl rfl ?_
 refine r_lit 16 (parts := [(0, .const ((Go.Value.int Go.IntKind.u8 122)))]) rfl TF.sl22 TF.sz5 TF.zraw5 rfl rfl rfl rfl rfl rfl rfl ?_
 refine r_convBB hq rfl 16 rfl (by simp [chunks]) TF.sl22 TF.un5 rfl ?_
 refine r_build (parts := [(0, .const ((Go.Value.string { data := #[98] }))), (1, .tmp 17)]) rfl TF.pl26 TF.zero26 rfl rfl rfl ?_
 refine r_lit 19 (parts := [(0, .tmp 15), (1, .tmp 18)]) rfl TF.sl24 TF.sz26 TF.zraw26 rfl rfl rfl rfl rfl rfl rfl ?_
 refine r_assign rfl rfl ?_
 refine awl_nil ?_
 refine x_then ?_
 refine awp_seq ?_
 refine awp_region ?_
 refine r_move rfl rfl ?_
 refine r_move rfl rfl ?_
 refine r_call0 hq rfl rfl (.cons (.ev rfl rfl) (.cons (.ev rfl rfl) .nil)) (of_ok [⟨⟨#[97]⟩, [120]⟩, ⟨⟨#[98]⟩, [121]⟩] [⟨⟨#[99]⟩, [120]⟩, ⟨⟨#[98]⟩, [122]⟩] (by simp) (by simp) (by decide) (by decide) (by decide) (by decide)) rfl TF.en18 rfl (fun r hr => ?_)
 obtain rfl := hr
 refine r_assign rfl rfl ?_
 refine awl_nil ?_
 refine x_then ?_
 refine awp_seq ?_
 refine awp_region ?_
 refine r_move rfl rfl ?_
 refine r_move rfl rfl ?_
 refine r_call0 hq rfl rfl (.cons (.ev rfl rfl) (.cons (.ev rfl rfl) .nil)) (applyOf_ok [⟨⟨#[97]⟩, [120]⟩, ⟨⟨#[98]⟩, [121]⟩] [⟨⟨#[99]⟩, [120]⟩, ⟨⟨#[98]⟩, [122]⟩] (by simp) (by simp) (by decide) (by decide) (by decide) (by decide)) rfl TF.en28 rfl (fun r hr => ?_)
 obtain rfl := hr
 rw [aw_clean, aw_of]
 refine r_move rfl rfl ?_
 refine r_extract rfl rfl rfl ?_
 refine r_extract rfl rfl rfl ?_
 refine r_assign rfl rfl ?_
 refine r_assign rfl rfl ?_
 refine awl_nil ?_
 refine x_then ?_
 refine awp_seq ?_
 refine awp_region ?_
 refine r_move rfl rfl ?_
 refine r_lenS rfl rfl TF.sl57 rfl ?_
 refine r_cmp rfl rfl rfl rfl ?_
 refine r_move rfl rfl ?_
 refine g_run rfl rfl rfl ?_
 refine r_move rfl rfl ?_
 refine g_run rfl rfl rfl ?_
 refine r_index rfl rfl rfl TF.sl57 TF.sz70 (by decide) rfl rfl ?_
 refine g_run rfl rfl rfl ?_
 refine r_fieldcp rfl TF.f70_0 TF.sz3 rfl ?_
 refine g_run rfl rfl rfl ?_
 refine r_load1 rfl TF.agg3 rfl ?_
 refine g_run rfl rfl rfl ?_
 refine r_cmp rfl rfl rfl rfl ?_
 refine r_pickT rfl rfl rfl rfl ?_
 refine r_move rfl rfl ?_
 refine g_run rfl rfl rfl ?_
 refine r_move rfl rfl ?_
 refine g_run rfl rfl rfl ?_
 refine r_index rfl rfl rfl TF.sl57 TF.sz70 (by decide) rfl rfl ?_
 refine g_run rfl rfl rfl ?_
 refine r_fieldcp rfl TF.f70_1 TF.sz9 rfl ?_
 refine g_run rfl rfl rfl ?_
 refine r_load1 rfl TF.agg9 rfl ?_
 refine g_run rfl rfl rfl ?_
 refine r_str2 rfl rfl rfl rfl ?_
 refine r_pickT rfl rfl rfl rfl ?_
 refine r_move rfl rfl ?_
 refine g_run rfl rfl rfl ?_
 refine r_move rfl rfl ?_
 refine g_run rfl rfl rfl ?_
 refine r_index rfl rfl rfl TF.sl57 TF.sz70 (by decide) rfl rfl ?_
 refine g_run rfl rfl rfl ?_
 refine r_fieldcp rfl TF.f70_2 TF.sz9 rfl ?_
 refine g_run rfl rfl rfl ?_
 refine r_load1 rfl TF.agg9 rfl ?_
 refine g_run rfl rfl rfl ?_
 refine r_str2 rfl rfl rfl rfl ?_
 refine r_pickT rfl rfl rfl rfl ?_
 refine r_move rfl rfl ?_
 refine g_run rfl rfl rfl ?_
 refine r_move rfl rfl ?_
 refine g_run rfl rfl rfl ?_
 refine r_index rfl rfl rfl TF.sl57 TF.sz70 (by decide) rfl rfl ?_
 refine g_run rfl rfl rfl ?_
 refine r_fieldcp rfl TF.f70_0 TF.sz3 rfl ?_
 refine g_run rfl rfl rfl ?_
 refine r_load1 rfl TF.agg3 rfl ?_
 refine g_run rfl rfl rfl ?_
 refine r_cmp rfl rfl rfl rfl ?_
 refine r_pickT rfl rfl rfl rfl ?_
 refine r_move rfl rfl ?_
 refine g_run rfl rfl rfl ?_
 refine r_move rfl rfl ?_
 refine g_run rfl rfl rfl ?_
 refine r_index rfl rfl rfl TF.sl57 TF.sz70 (by decide) rfl rfl ?_
 refine g_run rfl rfl rfl ?_
 refine r_fieldcp rfl TF.f70_1 TF.sz9 rfl ?_
 refine g_run rfl rfl rfl ?_
 refine r_load1 rfl TF.agg9 rfl ?_
 refine g_run rfl rfl rfl ?_
 refine r_str2 rfl rfl rfl rfl ?_
 refine r_pickT rfl rfl rfl rfl ?_
 refine r_move rfl rfl ?_
 refine g_run rfl rfl rfl ?_
 refine r_move rfl rfl ?_
 refine g_run rfl rfl rfl ?_
 refine r_index rfl rfl rfl TF.sl57 TF.sz70 (by decide) rfl rfl ?_
 refine g_run rfl rfl rfl ?_
 refine r_fieldcp rfl TF.f70_3 TF.sz22 rfl ?_
 refine g_run rfl rfl rfl ?_
 refine r_load1 rfl TF.agg22 rfl ?_
 refine g_run rfl rfl rfl ?_
 refine r_convBS [122] rfl rfl TF.sl22 TF.un5 TF.un9 rfl ?_
 refine g_run rfl rfl rfl ?_
 refine r_str2 rfl rfl rfl rfl ?_
 refine r_pickT rfl rfl rfl rfl ?_
 refine r_move rfl rfl ?_
 refine g_run rfl rfl rfl ?_
 refine r_move rfl rfl ?_
 refine g_run rfl rfl rfl ?_
 refine r_cmp rfl rfl rfl rfl ?_
 refine r_pickT rfl rfl rfl rfl ?_
 refine r_move rfl rfl ?_
 refine g_run rfl rfl rfl ?_
 refine r_move rfl rfl ?_
 refine g_run rfl rfl rfl ?_
 refine r_lenS rfl rfl TF.sl24 rfl ?_
 refine g_run rfl rfl rfl ?_
 refine r_cmp rfl rfl rfl rfl ?_
 refine r_pickT rfl rfl rfl rfl ?_
 refine r_move rfl rfl ?_
 refine g_run rfl rfl rfl ?_
 refine r_move rfl rfl ?_
 refine g_run rfl rfl rfl ?_
 refine r_index rfl rfl rfl TF.sl24 TF.sz26 (by decide) rfl rfl ?_
 refine g_run rfl rfl rfl ?_
 refine r_fieldcp rfl TF.f26_0 TF.sz9 rfl ?_
 refine g_run rfl rfl rfl ?_
 refine r_load1 rfl TF.agg9 rfl ?_
 refine g_run rfl rfl rfl ?_
 refine r_str2 rfl rfl rfl rfl ?_
 refine r_pickT rfl rfl rfl rfl ?_
 refine r_move rfl rfl ?_
 refine g_run rfl rfl rfl ?_
 refine r_move rfl rfl ?_
 refine g_run rfl rfl rfl ?_
 refine r_index rfl rfl rfl TF.sl24 TF.sz26 (by decide) rfl rfl ?_
 refine g_run rfl rfl rfl ?_
 refine r_fieldcp rfl TF.f26_0 TF.sz9 rfl ?_
 refine g_run rfl rfl rfl ?_
 refine r_load1 rfl TF.agg9 rfl ?_
 refine g_run rfl rfl rfl ?_
 refine r_str2 rfl rfl rfl rfl ?_
 refine r_pickT rfl rfl rfl rfl ?_
 refine r_move rfl rfl ?_
 refine g_run rfl rfl rfl ?_
 refine r_move rfl rfl ?_
 refine g_run rfl rfl rfl ?_
 refine r_call0 hq rfl rfl (.cons (.ev rfl rfl) .nil) (right_ok [⟨4, ⟨#[97]⟩, ⟨#[99]⟩, []⟩, ⟨3, ⟨#[98]⟩, E0, [122]⟩] (by simp)) rfl TF.en63 rfl (fun r hr => ?_)
 obtain rfl := hr
 rw [aw_right]
 refine r_pickT rfl rfl rfl rfl ?_
 refine r_move rfl rfl ?_
 first | refine r_pickT rfl (by first | rfl | assumption) rfl rfl ?_ | refine r_pickF rfl (by first | rfl | assumption) rfl rfl ?_
 refine r_move rfl rfl ?_
 first | refine r_pickT rfl (by first | rfl | assumption) rfl rfl ?_ | refine r_pickF rfl (by first | rfl | assumption) rfl rfl ?_
 refine r_assign rfl rfl ?_
 refine awl_nil ?_
 refine x_then ?_
 refine awp_ret ?_
 exact ⟨(.inl rfl), _, [], (.one (by first | exact .mk rfl rfl | exact .nil rfl)), ⟨rfl, rfl⟩, (List.nil_sublist _), (by simp)⟩
end Go.Proofs.YtcbhhjahjnlfhaaDoor.A
namespace Go.Proofs.YtcbhhjahjnlfhaaDoor.A
open Go Go.RowKit
set_option linter.unusedVariables false
set_option linter.unusedSimpArgs false
set_option maxRecDepth 100000
theorem TG.en8 : entersT Tryd.prog 8 := enters_of Tryd.func8 (by kernel_rfl) (by kernel_rfl)
theorem TG.zero71 : ZeroT Tryd.prog 71 [.v (.string ⟨#[]⟩), .sl 1 []] := ⟨[(.string ⟨#[]⟩), (.slice none 0 0)], by kernel_rfl, (.cons (.refl _) (.cons (.nil 1) .nil))⟩
theorem TG.sl65 : sliceT Tryd.prog 65 = some 71 := by kernel_rfl
theorem TG.sz71 : szT Tryd.prog 71 = some 2 := by kernel_rfl
theorem TG.en19 : entersT Tryd.prog 19 := enters_of Tryd.func19 (by kernel_rfl) (by kernel_rfl)
theorem TG.en20 : entersT Tryd.prog 20 := enters_of Tryd.func20 (by kernel_rfl) (by kernel_rfl)
theorem TG.en21 : entersT Tryd.prog 21 := enters_of Tryd.func21 (by kernel_rfl) (by kernel_rfl)
theorem TG.en23 : entersT Tryd.prog 23 := enters_of Tryd.func23 (by kernel_rfl) (by kernel_rfl)
theorem TG.en18 : entersT Tryd.prog 18 := enters_of Tryd.func18 (by kernel_rfl) (by kernel_rfl)
theorem TG.sl57 : sliceT Tryd.prog 57 = some 70 := by kernel_rfl
theorem TG.sz70 : szT Tryd.prog 70 = some 4 := by kernel_rfl
theorem TG.f70_0 : fieldT Tryd.prog 70 0 = some (0, 3) := by kernel_rfl
theorem TG.f70_1 : fieldT Tryd.prog 70 1 = some (1, 9) := by kernel_rfl
theorem TG.f70_2 : fieldT Tryd.prog 70 2 = some (2, 9) := by kernel_rfl
theorem TG.f70_3 : fieldT Tryd.prog 70 3 = some (3, 22) := by kernel_rfl
theorem TG.en28 : entersT Tryd.prog 28 := enters_of Tryd.func28 (by kernel_rfl) (by kernel_rfl)
end Go.Proofs.YtcbhhjahjnlfhaaDoor.A
namespace Go.Proofs.YtcbhhjahjnlfhaaDoor.A
open Go Go.RowKit
set_option linter.unusedVariables false
set_option linter.unusedSimpArgs false
set_option linter.unusedSectionVars false
variable {P : Program} {w0 : Base} {C0 C : CS} {T : TS} {S S' : AState} {a : Act} {w : World} {ops : Array Oper} {rest : List Oper} {o : Oper} {Q : Exit → AState → Prop}
variable {t : Nat} {ty ty' : TypeId} {pos : String} {aft : Array Edge} {rn : Option Nat}
def cellsOf : AObj → Nat → Option Value
  | .buf _ l _ _ => fun o => match l.flatten[o]? with | some (.v x) => some x | _ => none
  | .box cs => fun o => match cs[o]? with | some (.v x) => if x.oneCell' = true then some x else none | _ => none
  | .priv p => p
  | _ => fun _ => none
def CO : List OE → CS
  | [] => fun _ _ => none
  | e :: r => fun b o => if e.b = b then cellsOf e.o o else CO r b o
theorem co_mem {O : List OE} {b o : Nat} {v : Value} (h : CO O b o = some v) : ∃ e ∈ O, e.b = b ∧ cellsOf e.o o = some v := by
  induction O with
  | nil => cases h
  | cons e r ih =>
    simp only [CO] at h
    split at h
    · rename_i hb; exact ⟨e, List.mem_cons_self, hb, h⟩
    · obtain ⟨e', h1, h2⟩ := ih h; exact ⟨e', List.mem_cons_of_mem _ h1, h2⟩
end Go.Proofs.YtcbhhjahjnlfhaaDoor.A
namespace Go.Proofs.YtcbhhjahjnlfhaaDoor.A
open Go Go.RowKit
set_option linter.unusedVariables false
set_option linter.unusedSimpArgs false
set_option linter.unusedSectionVars false
variable {P : Program} {w0 : Base} {C0 C : CS} {T : TS} {S S' : AState} {a : Act} {w : World} {ops : Array Oper} {rest : List Oper} {o : Oper} {Q : Exit → AState → Prop}
variable {t : Nat} {ty ty' : TypeId} {pos : String} {aft : Array Edge} {rn : Option Nat}
def RawAt (e : OE) (w : World) : Prop := ∃ (xs : List Value) (t : TypeId), e.o = .box (xs.map AV.v) ∧ w.heap[e.b]? = some (.cells xs.toArray t (0, 0))
theorem RawAt.rel {e : OE} (h : RawAt e w) : ObjRel C e.b e.o w := by
  obtain ⟨xs, t, h1, h2⟩ := h
  rw [h1]; exact ⟨xs.toArray, t, h2, by simpa using rels_vs xs⟩
def CX (O : List OE) (C : CS) : CS := fun b o => match C b o with | some v => some v | none => CO O b o
theorem cx_l {O : List OE} {b o : Nat} {v : Value} (h : C b o = some v) : CX O C b o = some v := by simp [CX, h]
theorem cx_r {O : List OE} {b o : Nat} {v : Value} (h0 : C b o = none) (h : CO O b o = some v) : CX O C b o = some v := by simp [CX, h0, h]
theorem rel_cx {O : List OE} (hn : ∀ e ∈ O, ∀ o, C e.b o = none) {c : AV} {v : Value} (h : Rel (CO O) c v) : Rel (CX O C) c v :=
  h.mono (fun b o u hu => by obtain ⟨e, he, rfl, _⟩ := co_mem hu; exact cx_r (hn e he o) hu)
inductive ArgX (O : List OE) (S : AState) : Operand → AV → Prop where
  | arg {x : Operand} {c : AV} (h : Arg S x c) : ArgX O S x c
  | raw {x : Operand} {c : AV} {v : Value} (h : S.ev x = some (.a (.v v))) (hr : Rel (CO O) c v) : ArgX O S x c
inductive ArgsX (O : List OE) (S : AState) : List Operand → List AV → Prop where
  | nil : ArgsX O S [] []
  | cons {x : Operand} {c : AV} {xs : List Operand} {cs : List AV} (h : ArgX O S x c) (r : ArgsX O S xs cs) : ArgsX O S (x :: xs) (c :: cs)
theorem ArgsX.rels (h : SimC w0 C0 C T S a w) {O : List OE} (hn : ∀ e ∈ O, ∀ o, C e.b o = none) {xs : List Operand} {cs : List AV} (hx : ArgsX O S xs cs) : Rels (CX O C) cs (xs.map a.eval) := by
  induction hx with
  | nil => exact Rels.nil
  | cons h1 _ ih =>
    refine Rels.cons ?_ ih
    cases h1 with
    | arg g => exact (g.rel h).mono (fun b o v hv => cx_l hv)
    | raw g hr => rw [h.evv g]; exact rel_cx hn hr
end Go.Proofs.YtcbhhjahjnlfhaaDoor.A
namespace Go.Proofs.YtcbhhjahjnlfhaaDoor.A
open Go Go.RowKit
set_option linter.unusedVariables false
set_option linter.unusedSimpArgs false
set_option linter.unusedSectionVars false
variable {P : Program} {w0 : Base} {C0 C : CS} {T : TS} {S S' : AState} {a : Act} {w : World} {ops : Array Oper} {rest : List Oper} {o : Oper} {Q : Exit → AState → Prop}
variable {t : Nat} {ty ty' : TypeId} {pos : String} {aft : Array Edge} {rn : Option Nat}
def GrowB (sz : Nat) (l : List (List AV)) (r : AV) (n : List OE) : Prop :=
  (l = [] ∧ r = .v (.slice none 0 0) ∧ n = []) ∨ ∃ g cap e, r = .v (.slice (some ⟨g, 0, none⟩) l.length cap) ∧ n = [⟨g, true, .buf sz l cap e⟩]
def ObjLe (o o' : AObj) : Prop := ∀ (C : CS) (b : Nat) (w : World), ObjRel C b o w → ObjRel C b o' w
theorem AC.le {f : FuncId} {args : List AV} {objs objs' : List OE} {R : AV → List OE → Prop} (h : AC P f args objs' R) (hb : objs'.map (·.b) = objs.map (·.b)) (hle : ∀ (i : Nat) (e e' : OE), objs[i]? = some e → objs'[i]? = some e' → ObjLe e.o e'.o) : AC P f args objs R := by
  intro C w vals h1 h2 h3
  refine h C w vals h1 h2 ⟨fun e' he' => ?_, ?_⟩
  · obtain ⟨i, hi⟩ := List.getElem?_of_mem he'
    have hbi : (objs'.map (·.b))[i]? = (objs.map (·.b))[i]? := by rw [hb]
    rw [List.getElem?_map, List.getElem?_map, hi] at hbi
    cases hoi : objs[i]? with
    | none => rw [hoi] at hbi; cases hbi
    | some e =>
      rw [hoi] at hbi
      have hbe : e'.b = e.b := by simpa using hbi
      obtain ⟨g1, g2⟩ := h3.1 e (List.mem_of_getElem? hoi)
      rw [hbe]; exact ⟨hle i e e' hoi hi C e.b w g1, g2⟩
  · exact List.pairwise_map.1 (hb ▸ List.pairwise_map.2 h3.2)
def OwnCell (O : List OE) (c : AV) (u : Value) : Prop :=
  (∃ x, c = .v x ∧ u = x) ∨ ∃ (d : List UInt8) (A : Option Addr) (cap : Nat), c = .sl 1 (u8s d) ∧ u = .slice A d.length cap ∧ d.length ≤ cap ∧
    (d ≠ [] → ∃ b o ys, A = some ⟨b, o, none⟩ ∧ (⟨b, true, .box (List.map AV.v ys)⟩ : OE) ∈ O ∧ ∀ (k : Nat) (x : UInt8), d[k]? = some x → ys[o + k]? = some (.int .u8 x.toNat))
theorem OwnCell.mono {O O' : List OE} (hO : ∀ e ∈ O, e ∈ O') {c : AV} {u : Value} (h : OwnCell O c u) : OwnCell O' c u := by
  rcases h with h | ⟨d, A, cap, h1, h2, h3, h4⟩
  · exact .inl h
  · exact .inr ⟨d, A, cap, h1, h2, h3, fun hd => let ⟨b, o, ys, g1, g2, g3⟩ := h4 hd; ⟨b, o, ys, g1, hO _ g2, g3⟩⟩
end Go.Proofs.YtcbhhjahjnlfhaaDoor.A
namespace Go.Proofs.YtcbhhjahjnlfhaaDoor.A
open Go Go.RowKit
set_option linter.unusedVariables false
set_option linter.unusedSimpArgs false
set_option linter.unusedSectionVars false
variable {P : Program} {w0 : Base} {C0 C : CS} {T : TS} {S S' : AState} {a : Act} {w : World} {ops : Array Oper} {rest : List Oper} {o : Oper} {Q : Exit → AState → Prop}
variable {t : Nat} {ty ty' : TypeId} {pos : String} {aft : Array Edge} {rn : Option Nat}
def nbA : AV → Bool
  | .v v => noU8 v
  | .agg _ => false
  | _ => true
theorem nbA_val {c : AV} {u : Value} (h : Rel C c u) (hn : nbA c = true) : noU8 u = true := by
  cases h with
  | v x => exact hn
  | agg _ _ _ _ => cases hn
  | hi h hs hv => obtain ⟨A, n, c, rfl⟩ := hs; rfl
  | _ => rfl
def dropC (C : CS) (g : Nat) : CS := fun b o => if b = g then none else C b o
def KeepB (r : AV) : Prop := ∀ (C : CS) (v : Value) (g : Nat), Rel C r v → (∀ o u, C g o = some u → noU8 u = true) → Rel (dropC C g) r v
theorem keep_v (x : Value) : KeepB (.v x) := fun C v g h _ => by cases h; exact .v _
theorem keep_rows {sz : Nat} {l : List (List AV)} (hl : ∀ cs ∈ l, ∀ c ∈ cs, ∃ n, c = AV.v (.int .u8 n)) : KeepB (.sl sz l) := by
  intro C v g h hg
  obtain ⟨A, cap, b, o, rfl, h1, h2, h3⟩ := rel_sl_inv h
  refine rel_sl_mk b o rfl h1 h2 ⟨h3.1, fun i cs j c hi hj => ?_⟩
  obtain ⟨u, hu, hr⟩ := h3.2 i cs j c hi hj
  obtain ⟨n, rfl⟩ := hl cs (List.mem_of_getElem? hi) c (List.mem_of_getElem? hj)
  cases hr
  refine ⟨_, ?_, .v _⟩
  have hne : b ≠ g := fun e => by subst e; have := hg _ _ hu; cases this
  simp only [dropC, hne, if_false]; exact hu
theorem keep_tup {x y : AV} (hx : KeepB x) (hy : KeepB y) : KeepB (.tup [x, y]) := by
  intro C v g h hg
  cases h with
  | tup u hn hC hR =>
    obtain ⟨v0, vs, h1, h2, h3⟩ := (rel_tup.1 (.tup u hn hC hR)).cons_inv
    obtain ⟨v1, vs', rfl, h4, h5⟩ := h3.cons_inv
    obtain rfl := h5.nil_inv
    exact rel_tup.2 (by rw [h1]; exact Rels.cons (hx C v0 g h2 hg) (Rels.cons (hy C v1 g h4 hg) Rels.nil))
def Lent (C : CS) (g : Nat) (cs : List AV) : Prop := ∀ j c, cs[j]? = some c → ∃ u, C g j = some u ∧ Rel C c u
theorem lent_sl {g n cap sz : Nat} {cs ext : List AV} {l : List (List AV)} (h : Lent C g cs) (hcs : cs = l.flatten ++ ext) (hn : n = l.length) (hcap : n ≤ cap) (hz : ∀ c, c ∈ l → c.length = sz) : Rel C (.sl sz l) (.slice (some ⟨g, 0, none⟩) n cap) := by
  subst hcs
  refine rel_sl_mk g 0 hn hcap (fun _ => rfl) ⟨hz, fun i c j x hi hj => ?_⟩
  have h1 := flat_get hz hi hj
  have hlt := (List.getElem?_eq_some_iff.1 h1).1
  obtain ⟨u, hu, hr⟩ := h (i * sz + j) x (by rw [List.getElem?_append_left hlt]; exact h1)
  exact ⟨u, by rw [Nat.zero_add]; exact hu, hr⟩
theorem r_callT (hq : w0.q = false) (Cs : CS) (hcs : CsOk Cs w0 C0) (i : Nat) {g : Nat} {rw' : Bool} {cs ext : List AV} (hi : S.objs[i]? = some ⟨g, rw', .box (cs ++ ext)⟩) (hone : cs.all AV.one = true) (hnb : cs.all nbA = true)
    {x : Operand} {xs : List Operand} {xa : Array Operand} {tys : Array TypeId} {f : FuncId} {args : List AV} {R : AV → List OE → Prop} (hx : S.ev x = some (.a (.fn f []))) (hxa : xa = xs.toArray)
    (hargs : ∀ (C C1 : CS) (T : TS) (a : Act) (w : World), SimC w0 C0 C T S a w → (∀ b o v, C b o = some v → C1 b o = some v) → Lent C1 g cs → Rels C1 args (xs.map a.eval))
    (hc : AWC Cs P f args [] [] R) (hen : entersT P f) (ht : Nat.blt t S.nt = true) (hk : ∀ r n, R r n → KeepB r)
    (hr : ∀ r n, R r n → AWL P w0 C0 ops rest Q (S.put t (.a r))) :
    AWL P w0 C0 ops (⟨some t, .call ⟨.value x, xa, tys⟩, ty, pos, aft, none⟩ :: rest) Q S := by
  rintro a w ⟨C, T, hs⟩
  subst hxa
  have hf := hs.ev hx
  generalize hv : a.eval x = u at hf
  obtain ⟨arr0, rfl⟩ : ∃ arr, u = .func (.func f) #[] arr := by cases hf; exact ⟨_, rfl⟩
  have hcaps := (rel_fn.1 hf).nil_inv
  obtain rfl : arr0 = #[] := by simpa using hcaps
  obtain ⟨⟨arr, t0, g1, g0⟩, hno, _⟩ := hs.objs _ (mem_of_get hi)
  obtain ⟨al, hal⟩ : ∃ al, al = arr.toList.take cs.length := ⟨_, rfl⟩
  have halj : ∀ j v, al[j]? = some v → arr.toList[j]? = some v := fun j v h => by
    rw [hal, List.getElem?_take] at h
    split at h
    · exact h
    · cases h
  have g2 : Rels C cs al := by
    refine ⟨by rw [hal, List.length_take]; have := g0.1; simp at this ⊢; omega, fun j c u hj hu => g0.2 j c u ?_ (halj j u hu)⟩
    rw [List.getElem?_append_left (List.getElem?_eq_some_iff.1 hj).1]; exact hj
  have hgl : g < w.heap.size := (Array.getElem?_eq_some_iff.1 g1).1
  have hmono := CS.add_mono (C := C) (b := g) (o := 0) (vs := al) (fun j _ => hno _)
  have hlent : Lent (C.add g 0 al) g cs := fun j c hj => by
    obtain ⟨u, hu, hr⟩ := g2.get hj
    exact ⟨u, by have := CS.add_at (C := C) (b := g) (o := 0) hu; rwa [Nat.zero_add] at this, hr.mono hmono⟩
  have hcom : Com (C.add g 0 al) w := by
    refine ⟨fun b o v hc => ?_, fun b o v hc => ?_⟩
    · rcases CS.add_cases hc with ⟨rfl, j, rfl, hj⟩ | hc'
      · refine ⟨?_, fun _ _ => ⟨arr, t0, g1⟩⟩
        rw [cell_of_row w _ _ arr t0 (0, 0) g1, Nat.zero_add]; simpa using halj j _ hj
      · exact hs.com _ _ _ hc'
    · rcases CS.add_cases hc with ⟨rfl, j, rfl, hj⟩ | hc'
      · exact g2.ones hone _ (List.mem_of_getElem? hj)
      · exact hs.one _ _ _ hc'
  have hrels := hargs C _ T a w hs hmono hlent
  have hrun : (execOp a.eval ⟨some t, .call ⟨.value x, xs.toArray, tys⟩, ty, pos, aft, none⟩).run P w = .ok (.enter f (xs.map a.eval).toArray) w := by
    have : (xs.map a.eval).toArray = (xs.map a.eval).toArray ++ #[] := by simp
    rw [this]
    simp [execOp, resolve, invoke, hv, Deferred.ofValue, hen (xs.map a.eval).toArray w]
  refine wpList_plain rfl (fun K hK => ?_)
  unfold Oper.wp
  rw [hrun]
  refine (hc (C.add g 0 al) w (xs.map a.eval).toArray (fun b o v hc => hmono _ _ _ (by obtain ⟨h1, h2, h3⟩ := hcs b o v hc; rw [hs.old b o h2 h3]; exact h1)) hcom (by simpa using hrels) ⟨by simp, by simp⟩).mono ?_
  rintro e w' ⟨v, C', r, nobjs, rfl, hR, hb, hC, hcom', hrel, hn, hnb'⟩
  have hb' : Below w.heap.size w w' := ⟨hb.os, hb.tape, hb.output, hb.size, fun k hk => hb.block k hk wb_nil⟩
  have hdrop : ∀ b o, b < w.heap.size → dropC C' g b o = C b o := fun b o hbl => by
    by_cases e : b = g
    · subst e; simp only [dropC, if_true]; exact (hno o).symm
    · simp only [dropC, e, if_false]; rw [hC b o hbl wb_nil, CS.add_other e]
  have hcom2 : Com (dropC C' g) w' := by
    refine ⟨fun b o v hc => ?_, fun b o v hc => ?_⟩ <;> (simp only [dropC] at hc; split at hc)
    · cases hc
    · exact hcom'.1 _ _ _ hc
    · cases hc
    · exact hcom'.2 _ _ _ hc
  have hgb : ∀ o u, C' g o = some u → noU8 u = true := fun o u hu => by
    rw [hC g o hgl wb_nil] at hu
    rcases CS.add_cases hu with ⟨_, j, rfl, hj⟩ | hc'
    · have hjl : j < cs.length := by have := (List.getElem?_eq_some_iff.1 hj).1; have := g2.1; omega
      exact nbA_val (g2.2 j cs[j] u (List.getElem?_eq_getElem hjl) hj) (List.all_eq_true.1 hnb _ (List.getElem_mem hjl))
    · rw [hno o] at hc'; cases hc'
  have hrel2 := hk r nobjs hR C' v g hrel hgb
  exact hK _ _ (hr r nobjs hR _ _ ⟨dropC C' g, T, by
    have := (hs.called (nobjs := []) hb' (fun h => by rw [hq] at h; cases h) hdrop hcom2 ⟨by simp, by simp⟩ (by simp)).put ht (x := .a r) hrel2
    exact this⟩)
theorem r_cat {xt yt : TypeId} {x y : Operand} {i j : ByteArray} (hx : S.ev x = some (.a (.v (.string i)))) (hy : S.ev y = some (.a (.v (.string j)))) (hsz : i.size + j.size ≤ 9223372036854775807)
    (ht : Nat.blt t S.nt = true) (hr : AWL P w0 C0 ops rest Q (S.put t (.a (.v (.string (i ++ j)))))) :
    AWL P w0 C0 ops (⟨some t, .binOp .add xt x y yt, ty, pos, aft, none⟩ :: rest) Q S :=
  awl_pure ht (fun C T a w hs => ⟨.string (i ++ j), by
    simp [execOp, hs.evv hx, hs.evv hy, eqGuard, binOp, run_string_add_sum w i j hsz], srel_v _⟩) hr
theorem r_strH {xt : TypeId} {x z : Operand} {s : ByteArray} {k' : IntKind} {hi : Int} (hx : S.ev x = some (.a (.v (.string s)))) (hz : S.ev z = some (.a (.v (.int k' hi)))) (hu : P.underlying xt = some .string)
    (h0 : 0 ≤ hi) (h1 : hi ≤ s.size) (ht : Nat.blt t S.nt = true) (hr : AWL P w0 C0 ops rest Q (S.put t (.a (.v (.string (s.extract 0 hi.toNat)))))) : AWL P w0 C0 ops (⟨some t, .slice xt x none (some z) none, ty, pos, aft, none⟩ :: rest) Q S :=
  awl_pure ht (fun C T a w hs => by
    refine ⟨.string (s.extract 0 hi.toNat), ?_, srel_v _⟩
    have h := run_slice_string_to_if (P := P) w xt s k' hi hu
    rw [if_pos ⟨h0, h1⟩] at h
    simp [execOp, hs.evv hx, hs.evv hz, run_sliceAt_string w xt _ _ _ _ hu, h]) hr
end Go.Proofs.YtcbhhjahjnlfhaaDoor.A
namespace Go.Proofs.YtcbhhjahjnlfhaaDoor.A
open Go Go.RowKit Go.Maps Go.Sort
set_option linter.unusedVariables false
set_option linter.unusedSimpArgs false
set_option linter.unusedSectionVars false
abbrev Wr := Nat × Blk
def wrC (w : Wr) : List AV := [.v (.int .i64 0), .v (.int .i64 0), .v (.int .i64 (w.1 : Int))] ++ blkC w.2
def wrsA (l : List Wr) : AV := .sl 35 (l.map wrC)
structure Deed where
  kind : Int
  ws : List Wr
  mn : Int
def Deed.cs (d : Deed) : List AV := [.v (.int .i64 d.kind), wrsA d.ws, .v (.int .i64 d.mn)]
def deedsA (l : List Deed) : AV := .sl 3 (l.map Deed.cs)
def many8 (n : Nat) : Nat := (n + 7) / 8
def cut8 : Nat → List Wr → List (List Wr)
  | 0, _ => []
  | n + 1, l => l.take 8 :: cut8 n (l.drop 8)
theorem cut8_len : ∀ (n : Nat) (l : List Wr), (cut8 n l).length = n
  | 0, _ => rfl
  | n + 1, l => by simp [cut8, cut8_len n]
theorem cut8_snoc : ∀ (k : Nat) (l : List Wr), cut8 (k + 1) l = cut8 k l ++ [(l.drop (8 * k)).take 8]
  | 0, l => by simp [cut8]
  | k + 1, l => by
    rw [cut8, cut8_snoc k (l.drop 8), cut8, List.cons_append, List.drop_drop, show 8 + 8 * k = 8 * (k + 1) by omega]
theorem cut8_join : ∀ (n : Nat) (l : List Wr), l.length ≤ 8 * n → (cut8 n l).flatten = l
  | 0, l, h => by have : l = [] := List.eq_nil_of_length_eq_zero (by omega); subst this; rfl
  | n + 1, l, h => by
    rw [cut8, List.flatten_cons, cut8_join n (l.drop 8) (by rw [List.length_drop]; omega), List.take_append_drop]
def enumW : Nat → List Blk → List Wr
  | _, [] => []
  | i, b :: r => (i, b) :: enumW (i + 1) r
theorem enumW_len : ∀ (l : List Blk) (i : Nat), (enumW i l).length = l.length
  | [], _ => rfl
  | b :: r, i => by simp [enumW, enumW_len r]
theorem enumW_snoc : ∀ (l : List Blk) (i : Nat) (b : Blk), enumW i (l ++ [b]) = enumW i l ++ [(i + l.length, b)]
  | [], i, b => by simp [enumW]
  | c :: r, i, b => by
    rw [List.cons_append, enumW, enumW_snoc r, enumW, List.cons_append, List.length_cons, show i + 1 + r.length = i + (r.length + 1) by omega]
def mkD (ws : List Wr) : Deed := ⟨1, ws, 0⟩
def rowsF (D : List Blk) : List Deed := (cut8 (many8 D.length) (enumW 0 D)).map mkD
theorem m8_lt {n k : Nat} (h : 8 * k < n) : k < many8 n := by unfold many8; omega
theorem m8_ge {n k : Nat} (h : n ≤ 8 * k) : many8 n ≤ k := by unfold many8; omega
def rowW (ws : List Wr) : List AV := [wrsA ws]
def chunkWA (W : List Wr) (pre : List (List AV)) (x : List AV) : Prop := pre.length < many8 W.length ∧ x = rowW ((W.drop (8 * pre.length)).take 8)
theorem chunkW_part {W : List Wr} {k e : Nat} (h : 8 * k < W.length) (he : e = min 8 (W.length - 8 * k)) : ((W.map wrC).take (8 * k + e)).drop (8 * k) = ((W.drop (8 * k)).take 8).map wrC := by
  subst he
  rw [← List.map_take, ← List.map_drop, List.drop_take]
  congr 1
  rw [show 8 * k + min 8 (W.length - 8 * k) - 8 * k = min 8 (W.length - 8 * k) by omega]
  rcases Nat.le_total 8 (W.length - 8 * k) with h1 | h1
  · rw [Nat.min_eq_left h1]
  · rw [Nat.min_eq_right h1, List.take_of_length_le (by simp), List.take_of_length_le (by simp; omega)]
def GrowD (tD b : Nat) (l : List Deed) (wo : List OE) : Prop :=
  (l = [] ∧ wo = [⟨b, true, .box [.v (.slice none 0 0)]⟩]) ∨ (l ≠ [] ∧ ∃ g cap, wo = [⟨g, true, .buf 3 (l.map Deed.cs) cap tD⟩, ⟨b, true, .box [.v (.slice (some ⟨g, 0, none⟩) (l.map Deed.cs).length cap)]⟩])
def lockF (data : List UInt8) (key : UInt8) : List UInt8 := data.mapIdx fun i x => x ^^^ (key + 37 * i.toUInt8)
theorem u8_of (k : Nat) : IntKind.u8.wrap (k : Int) = (k.toUInt8.toNat : Int) := by
  rw [IntKind.wrap_u8]; simp
theorem u8_mul (a b : UInt8) : IntKind.u8.wrap ((a.toNat : Int) * (b.toNat : Int)) = ((a * b).toNat : Int) := by
  rw [IntKind.wrap_u8, UInt8.toNat_mul]; omega
theorem u8_add (a b : UInt8) : IntKind.u8.wrap ((a.toNat : Int) + (b.toNat : Int)) = ((a + b).toNat : Int) := by
  rw [IntKind.wrap_u8, UInt8.toNat_add]; omega
theorem u8_xor (a b : UInt8) : IntKind.u8.wrap ((BitVec.ofInt 8 (a.toNat : Int) ^^^ BitVec.ofInt 8 (b.toNat : Int)).toNat : Nat) = ((a ^^^ b).toNat : Int) := by
  have h : ∀ x : UInt8, BitVec.ofInt 8 (x.toNat : Int) = x.toBitVec := fun x => by
    apply BitVec.eq_of_toNat_eq
    have := x.toNat_lt
    simp [BitVec.toNat_ofInt]
  rw [h, h, ← UInt8.toBitVec_xor, IntKind.wrap_u8]
  have := (a ^^^ b).toNat_lt
  show (((a ^^^ b).toNat : Int)) % 256 = _
  omega
def lockB (key : UInt8) (i : Nat) (x : UInt8) : UInt8 := x ^^^ (key + 37 * i.toUInt8)
theorem lockF_def (data : List UInt8) (key : UInt8) : lockF data key = data.mapIdx fun i x => lockB key i x := rfl
theorem lockF_len (data : List UInt8) (key : UInt8) : (lockF data key).length = data.length := by simp [lockF]
theorem lockF_snoc (l : List UInt8) (x : UInt8) (key : UInt8) : lockF (l ++ [x]) key = lockF l key ++ [lockB key l.length x] := by
  rw [lockF_def, lockF_def, List.mapIdx_append]; simp
def bcel (l : List UInt8) : List AV := l.map fun x => .v (.int .u8 x.toNat)
theorem bcel_flat (l : List UInt8) : (u8s l).flatten = bcel l := by
  induction l with
  | nil => rfl
  | cons x r ih => show _ :: (u8s r).flatten = _; rw [ih]; rfl
theorem bcel_len (l : List UInt8) : (bcel l).length = l.length := by simp [bcel]
def lkC (data : List UInt8) (key : UInt8) (k : Nat) (ext : List AV) : List AV := bcel (lockF (data.take k) key ++ data.drop k) ++ ext
theorem lk_zero (data : List UInt8) (key : UInt8) (ext : List AV) : lkC data key 0 ext = (u8s data).flatten ++ ext := by rw [bcel_flat]; rfl
theorem lk_end (data : List UInt8) (key : UInt8) (ext : List AV) {k : Nat} (h : data.length ≤ k) : lkC data key k ext = (u8s (lockF data key)).flatten ++ ext := by
  rw [bcel_flat, lkC, List.take_of_length_le h, List.drop_of_length_le h, List.append_nil]
theorem lk_len {data : List UInt8} {key : UInt8} {k : Nat} {ext : List AV} (h : k ≤ data.length) : (lkC data key k ext).length = data.length + ext.length := by
  rw [lkC, List.length_append, bcel_len, List.length_append, lockF_len, List.length_take, List.length_drop]; omega
theorem lk_at {data : List UInt8} {key : UInt8} {k : Nat} {ext : List AV} {x : UInt8} (hx : data[k]? = some x) {i : Nat} (hi : i = k) : (lkC data key k ext)[i]? = some (.v (.int .u8 x.toNat)) := by
  subst hi
  have hl := (List.getElem?_eq_some_iff.1 hx).1
  have h1 : (lockF (data.take i) key).length = i := by rw [lockF_len, List.length_take]; omega
  rw [lkC, List.getElem?_append_left (by rw [bcel_len, List.length_append, h1, List.length_drop]; omega), bcel, List.getElem?_map, List.getElem?_append_right (by omega), h1, Nat.sub_self, List.getElem?_drop, Nat.add_zero, hx]
  rfl
theorem lk_step {data : List UInt8} {key : UInt8} {k : Nat} {ext : List AV} {x : UInt8} (hx : data[k]? = some x) {i : Nat} (hi : i = k) :
    (lkC data key k ext).set i (.v (.int .u8 (lockB key k x).toNat)) = lkC data key (k + 1) ext := by
  subst hi
  have hl := (List.getElem?_eq_some_iff.1 hx).1
  have h1 : (data.take i).length = i := by rw [List.length_take]; omega
  have h2 : (lockF (data.take i) key).length = i := by rw [lockF_len, h1]
  have hd : data.drop i = x :: data.drop (i + 1) := by
    rw [List.drop_eq_getElem_cons hl]; rw [List.getElem?_eq_getElem hl] at hx; rw [Option.some.inj hx]
  have ht : data.take (i + 1) = data.take i ++ [x] := by rw [List.take_add_one, hx]; rfl
  rw [lkC, lkC, ht, lockF_snoc, h1, hd, List.set_append_left _ _ (by rw [bcel_len, List.length_append, h2]; simp), bcel, bcel]
  congr 1
  rw [List.map_append, List.map_append, List.map_append, List.set_append_right _ _ (by rw [List.length_map, h2]; exact Nat.le_refl _), List.length_map, h2, Nat.sub_self, List.append_assoc]
  rfl
theorem lk_step2 {data : List UInt8} {key : UInt8} {k : Nat} {ext : List AV} {x : UInt8} (hx : data[k]? = some x) {i j : Nat} (hi : i = k) (hj : j = k + 1) :
    (lkC data key k ext).take i ++ [.v (.int .u8 (lockB key k x).toNat)] ++ (lkC data key k ext).drop j = lkC data key (k + 1) ext := by
  subst hi; subst hj
  have hl := (List.getElem?_eq_some_iff.1 hx).1
  rw [← lk_step hx rfl, List.set_eq_take_append_cons_drop, if_pos (by rw [lk_len (by omega)]; omega), List.append_assoc]; rfl
theorem u8s_flat (l : List UInt8) : ∀ cs ∈ u8s l, ∀ c ∈ cs, ∃ v, c = AV.v v := fun cs hcs c hc => by
  obtain ⟨x, _, rfl⟩ := List.mem_map.1 hcs
  obtain rfl := List.mem_singleton.1 hc
  exact ⟨_, rfl⟩
def lockAt (key : UInt8) (l : List File) (i : Nat) : List File := match l[i]? with | some x => l.set i ⟨x.name, lockF x.data key⟩ | none => l
def nameAt (suf : ByteArray) (l : List File) (i : Nat) : List File := match l[i]? with | some x => l.set i ⟨x.name ++ suf, x.data⟩ | none => l
theorem lockAt_some {key : UInt8} {l : List File} {i : Nat} {x : File} (h : l[i]? = some x) : lockAt key l i = l.set i ⟨x.name, lockF x.data key⟩ := by unfold lockAt; rw [h]
theorem nameAt_some {suf : ByteArray} {l : List File} {i : Nat} {x : File} (h : l[i]? = some x) : nameAt suf l i = l.set i ⟨x.name ++ suf, x.data⟩ := by unfold nameAt; rw [h]
def rowsO (l : List File) : List Deed := if okFs l = true then rowsF (diskF l) else []
def eachF (e : Int) : List Deed := if e > 0 then [⟨2, [], e⟩] else []
theorem growD_tr {tD b : Nat} {l : List Deed} {wo : List OE} (h : GrowD tD b l wo) : Tr wo = wo := by
  rcases h with ⟨_, rfl⟩ | ⟨_, g, cap, rfl⟩ <;> rfl
theorem growD_rw {tD b : Nat} {l : List Deed} {wo : List OE} (h : GrowD tD b l wo) : wo.all (·.rw) = true := by
  rcases h with ⟨_, rfl⟩ | ⟨_, g, cap, rfl⟩ <;> rfl
theorem box_split {l : List File} {k : Nat} {x : File} (ext : List AV) (hx : l[k]? = some x) : ((l.take k).map File.cs).flatten.length = k * 2 ∧ boxF l ext = ((l.take k).map File.cs).flatten ++ (AV.v (.string x.name) :: bts x.data :: (((l.drop (k + 1)).map File.cs).flatten ++ ext)) ∧
    ∀ y, boxF (l.set k y) ext = ((l.take k).map File.cs).flatten ++ (AV.v (.string y.name) :: bts y.data :: (((l.drop (k + 1)).map File.cs).flatten ++ ext)) := by
  have hk := (List.getElem?_eq_some_iff.1 hx).1
  have hd : l.drop k = x :: l.drop (k + 1) := by rw [List.drop_eq_getElem_cons hk, (List.getElem?_eq_some_iff.1 hx).2]
  have hl : (((l.take k).map File.cs).flatten).length = k * 2 := by
    rw [flat_len (sz := 2) (fun c hc => by obtain ⟨f, _, rfl⟩ := List.mem_map.1 hc; rfl), List.length_map, List.length_take]; omega
  refine ⟨hl, ?_, fun y => ?_⟩
  · unfold boxF
    conv => lhs; rw [← List.take_append_drop k l, hd]
    simp [File.cs]
  · unfold boxF
    rw [List.set_eq_take_append_cons_drop, if_pos hk]
    simp [File.cs]
theorem box_at0 {l : List File} {k : Nat} {x : File} {ext : List AV} (hx : l[k]? = some x) {i : Nat} (hi : i = k * 2) : (boxF l ext)[i]? = some (AV.v (.string x.name)) := by
  obtain ⟨h1, h2, _⟩ := box_split ext hx
  subst hi
  rw [h2, List.getElem?_append_right (by omega), h1, Nat.sub_self]; rfl
theorem box_at1 {l : List File} {k : Nat} {x : File} {ext : List AV} (hx : l[k]? = some x) {i : Nat} (hi : i = k * 2 + 1) : (boxF l ext)[i]? = some (bts x.data) := by
  obtain ⟨h1, h2, _⟩ := box_split ext hx
  subst hi
  rw [h2, List.getElem?_append_right (by omega), h1, Nat.add_sub_cancel_left]; rfl
theorem box_set1 {l : List File} {k : Nat} {x : File} {ext : List AV} (hx : l[k]? = some x) {d : List UInt8} {i j : Nat} (hi : i = k * 2 + 1) (hj : j = k * 2 + 1 + 1) : (boxF l ext).take i ++ [bts d] ++ (boxF l ext).drop j = boxF (l.set k ⟨x.name, d⟩) ext := by
  obtain ⟨h1, h2, h3⟩ := box_split ext hx
  subst hi; subst hj
  rw [h2, h3, ← h1, List.take_length_add_append, Nat.add_assoc, List.drop_length_add_append]
  simp
theorem box_set0 {l : List File} {k : Nat} {x : File} {ext : List AV} (hx : l[k]? = some x) {s : ByteArray} {i j : Nat} (hi : i = k * 2) (hj : j = k * 2 + 1) : (boxF l ext).take i ++ [AV.v (.string s)] ++ (boxF l ext).drop j = boxF (l.set k ⟨s, x.data⟩) ext := by
  obtain ⟨h1, h2, h3⟩ := box_split ext hx
  subst hi; subst hj
  rw [h2, h3, ← h1, List.take_left' rfl, List.drop_length_add_append]
  simp
theorem box_nb (l : List File) : (l.map File.cs).flatten.all nbA = true := by
  rw [List.all_eq_true]
  intro x hx
  obtain ⟨c, hc, hxc⟩ := List.mem_flatten.1 hx
  obtain ⟨f, _, rfl⟩ := List.mem_map.1 hc
  simp [File.cs] at hxc
  rcases hxc with rfl | rfl <;> rfl
theorem make_keep {l : List File} {r : AV} {n : List OE} (h : n = [] ∧ ((okFs l = true ∧ r = .tup [blksA (diskF l), .v (.int .i64 0)]) ∨ (okFs l = false ∧ ∃ e : Int, ¬ e = 0 ∧ r = .tup [.v (.slice none 0 0), .v (.int .i64 e)]))) : KeepB r := by
  obtain ⟨_, ⟨_, rfl⟩ | ⟨_, e, _, rfl⟩⟩ := h
  · refine keep_tup (keep_rows fun cs hcs c hc => ?_) (keep_v _)
    obtain ⟨b, _, rfl⟩ := List.mem_map.1 hcs
    obtain ⟨x, _, rfl⟩ := List.mem_map.1 hc
    exact ⟨_, rfl⟩
  · exact keep_tup (keep_v _) (keep_v _)
theorem rows_ne {D : List Blk} (h : D ≠ []) : rowsF D ≠ [] := by
  cases D with
  | nil => exact absurd rfl h
  | cons x r => simp [rowsF, many8, cut8, show (r.length + 1 + 7) / 8 = (r.length / 8) + 1 by omega]
theorem rowsF_len (D : List Blk) : (rowsF D).length = many8 D.length := by simp [rowsF, cut8_len]
theorem disk_ne (l : List File) : diskF l ≠ [] := by simp [diskF]
theorem eachF_len (e : Int) : (eachF e).length ≤ 1 := by unfold eachF; split <;> simp
theorem perm_two {α : Type} (a b : α) (R : List α) : (a :: b :: R).Perm (R ++ [a, b]) := List.perm_append_comm (l₁ := [a, b]) (l₂ := R)
def GrowT (tD sz : Nat) (l : List (List AV)) (r : AV) (n : List OE) : Prop :=
  (l = [] ∧ r = .v (.slice none 0 0) ∧ n = []) ∨ ∃ g cap, r = .v (.slice (some ⟨g, 0, none⟩) l.length cap) ∧ n = [⟨g, true, .buf sz l cap tD⟩]
def evsF (ev : Nat → List Deed) : Nat → List Deed
  | 0 => []
  | k + 1 => evsF ev k ++ ev k
theorem tr_app (a b : List OE) : Tr (a ++ b) = Tr a ++ Tr b := List.map_append
theorem perm_host {α : Type} (a b : α) (R : List α) : (R ++ [a, b]).Perm (b :: a :: R) := (List.perm_append_comm (l₁ := R) (l₂ := [a, b])).trans (List.Perm.swap _ _ _)
end Go.Proofs.YtcbhhjahjnlfhaaDoor.A
namespace Go.Proofs.YtcbhhjahjnlfhaaDoor.A
open Go Go.RowKit
set_option linter.unusedVariables false
set_option linter.unusedSimpArgs false
set_option maxRecDepth 100000
theorem TG.agg39 : aggT Tryd.prog 39 = some false := by kernel_rfl
theorem TG.sl39 : sliceT Tryd.prog 39 = some 45 := by kernel_rfl
theorem TG.sz45 : szT Tryd.prog 45 = some 35 := by kernel_rfl
theorem TG.en100 : entersT Tryd.prog 100 := enters_of Tryd.func100 (by kernel_rfl) (by kernel_rfl)
theorem TG.zero37 : ZeroT Tryd.prog 37 [.v (.slice none 0 0)] := ⟨[(.slice none 0 0)], by kernel_rfl, (LeCells.refl _)⟩
theorem TG.pl43 : placesT Tryd.prog 43 = some [(0, 1), (1, 1), (2, 1)] := by kernel_rfl
theorem TG.zero43 : ZeroT Tryd.prog 43 [.v (.int .i64 0), .v (.int .i64 0), .v (.int .i64 0)] := ⟨[(.int .i64 0), (.int .i64 0), (.int .i64 0)], by kernel_rfl, (LeCells.refl _)⟩
theorem TG.pl45 : placesT Tryd.prog 45 = some [(0, 3), (3, 32)] := by kernel_rfl
theorem TG.zero45 : ZeroT Tryd.prog 45 [.v (.int .i64 0), .v (.int .i64 0), .v (.int .i64 0), .v (.int .u8 0), .v (.int .u8 0), .v (.int .u8 0), .v (.int .u8 0), .v (.int .u8 0), .v (.int .u8 0), .v (.int .u8 0), .v (.int .u8 0), .v (.int .u8 0), .v (.int .u8 0), .v (.int .u8 0), .v (.int .u8 0), .v (.int .u8 0), .v (.int .u8 0), .v (.int .u8 0), .v (.int .u8 0), .v (.int .u8 0), .v (.int .u8 0), .v (.int .u8 0), .v (.int .u8 0), .v (.int .u8 0), .v (.int .u8 0), .v (.int .u8 0), .v (.int .u8 0), .v (.int .u8 0), .v (.int .u8 0), .v (.int .u8 0), .v (.int .u8 0), .v (.int .u8 0), .v (.int .u8 0), .v (.int .u8 0), .v (.int .u8 0)] := ⟨[(.int .i64 0), (.int .i64 0), (.int .i64 0), (.int .u8 0), (.int .u8 0), (.int .u8 0), (.int .u8 0), (.int .u8 0), (.int .u8 0), (.int .u8 0), (.int .u8 0), (.int .u8 0), (.int .u8 0), (.int .u8 0), (.int .u8 0), (.int .u8 0), (.int .u8 0), (.int .u8 0), (.int .u8 0), (.int .u8 0), (.int .u8 0), (.int .u8 0), (.int .u8 0), (.int .u8 0), (.int .u8 0), (.int .u8 0), (.int .u8 0), (.int .u8 0), (.int .u8 0), (.int .u8 0), (.int .u8 0), (.int .u8 0), (.int .u8 0), (.int .u8 0), (.int .u8 0)], by kernel_rfl, (LeCells.refl _)⟩
theorem TG.zraw45 : zeroT Tryd.prog 45 = some [(.int .i64 0), (.int .i64 0), (.int .i64 0), (.int .u8 0), (.int .u8 0), (.int .u8 0), (.int .u8 0), (.int .u8 0), (.int .u8 0), (.int .u8 0), (.int .u8 0), (.int .u8 0), (.int .u8 0), (.int .u8 0), (.int .u8 0), (.int .u8 0), (.int .u8 0), (.int .u8 0), (.int .u8 0), (.int .u8 0), (.int .u8 0), (.int .u8 0), (.int .u8 0), (.int .u8 0), (.int .u8 0), (.int .u8 0), (.int .u8 0), (.int .u8 0), (.int .u8 0), (.int .u8 0), (.int .u8 0), (.int .u8 0), (.int .u8 0), (.int .u8 0), (.int .u8 0)] := by kernel_rfl
theorem TG.by45 : bytesT Tryd.prog 45 = some 56 := by kernel_rfl
theorem TG.zlen45 : (zeroT Tryd.prog 45).map (·.length) = some 35 := by kernel_rfl
theorem TG.en80 : entersT Tryd.prog 80 := enters_of Tryd.func80 (by kernel_rfl) (by kernel_rfl)
theorem TG.agg37 : aggT Tryd.prog 37 = some false := by kernel_rfl
theorem TG.pl41 : placesT Tryd.prog 41 = some [(0, 1), (1, 1), (2, 1)] := by kernel_rfl
theorem TG.zero41 : ZeroT Tryd.prog 41 [.v (.int .i64 0), .sl 35 [], .v (.int .i64 0)] := ⟨[(.int .i64 0), (.slice none 0 0), (.int .i64 0)], by kernel_rfl, (.cons (.refl _) (.cons (.nil 35) (.cons (.refl _) .nil)))⟩
theorem TG.sl37 : sliceT Tryd.prog 37 = some 41 := by kernel_rfl
theorem TG.sz41 : szT Tryd.prog 41 = some 3 := by kernel_rfl
theorem TG.zraw41 : zeroT Tryd.prog 41 = some [(.int .i64 0), (.slice none 0 0), (.int .i64 0)] := by kernel_rfl
theorem TG.by41 : bytesT Tryd.prog 41 = some 40 := by kernel_rfl
theorem TG.zlen41 : (zeroT Tryd.prog 41).map (·.length) = some 3 := by kernel_rfl
theorem TG.sz37 : szT Tryd.prog 37 = some 1 := by kernel_rfl
set_option maxHeartbeats 1000000 in
theorem chunkW1_ok (W : List Wr) (hl : W.length ≤ 1000000) : IterC Tryd.prog 100 [.cp [wrsA W], .cp [.v (.int .i64 ((8 : Nat) : Int))]] [] (chunkWA W) (fun xs => xs = (cut8 (many8 W.length) W).map rowW) := by
 intro l0 Cs J hY wo hJ0
 refine awc_of_awpG Cs (so := Tr wo) (nt := 31) (fun S r => Result1 S [] r) Tryd.func100 rfl rfl rfl rfl (result1_run rfl) (fun w0 C0 hq hcs => ?_)
 refine awp_seq ?_
 refine awp_region ?_
 refine r_assign rfl rfl ?_
 refine awl_nil ?_
 refine x_then ?_
 refine awp_block ?_
 refine awp_loop (fun nn0 S => ∃ k : Nat, ∃ wv : List OE, S = ⟨31, [(0, .a (.v (.func (.yield l0) #[] #[]))), (1, .a (.cp [wrsA W])), (2, .a (.cp [.v (.int .i64 ((8 : Nat) : Int))])), (4, .a (.v (.int .i64 (((8 * k : Nat) : Int)))))], Tr wv⟩ ∧ nn0 = many8 W.length - k ∧ (k ≤ many8 W.length) ∧ (J ((cut8 k W).map rowW) wv)) (many8 W.length - (0)) ⟨31, [(0, .a (.v (.func (.yield l0) #[] #[]))), (1, .a (.cp [wrsA W])), (2, .a (.cp [.v (.int .i64 ((8 : Nat) : Int))])), (4, .a (.v (.int .i64 (((8 * (0) : Nat) : Int)))))], Tr (wo)⟩ ⟨rfl, (Slots.cons rfl (by first | exact .refl _ | exact .nilOwn _ _ | exact .nilSl _ | exact .ownSl _ _ _  | exact SV.le.of_eq (by simp)) (Slots.cons rfl (by first | exact .refl _ | exact .nilOwn _ _ | exact .nilSl _ | exact .ownSl _ _ _  | exact SV.le.of_eq (by simp)) (Slots.cons rfl (by first | exact .refl _ | exact .nilOwn _ _ | exact .nilSl _ | exact .ownSl _ _ _  | exact SV.le.of_eq (by simp)) (Slots.cons rfl (by first | exact .refl _ | exact .nilOwn _ _ | exact .nilSl _ | exact .ownSl _ _ _  | exact SV.le.of_eq (by simp)) Slots.nil)))), (List.Sublist.refl _)⟩ ⟨0, wo, rfl, rfl, Nat.zero_le _, hJ0⟩ ?_
 rintro nn0 _ ⟨k, wv, rfl, rfl, hk, hJ⟩
 refine awp_seq ?_
 refine awp_seq ?_
 refine awp_region ?_
 refine r_move rfl rfl ?_
 refine r_load1 rfl TG.agg39 rfl ?_
 refine r_lenS rfl rfl TG.sl39 rfl ?_
 refine r_cmp rfl rfl rfl rfl ?_
 refine awl_nil ?_
 refine x_then ?_
 refine awp_cond rfl (fun hc0 => ?_) (fun hc0 => ?_)
 ·
  have hlt : 8 * k < W.length := by have := of_decide_eq_true hc0; simp at this; omega
  obtain ⟨e, he⟩ : ∃ e, e = min 8 (W.length - 8 * k) := ⟨_, rfl⟩
  refine awp_skip ?_
  refine x_then ?_
  refine awp_seq ?_
  refine awp_block ?_
  refine awp_seq ?_
  refine awp_drawS [13, 14, 15, 16, 17] [_, _, _, _, _] [] [] TG.mixed rfl rfl rfl ⟨⟨⟨⟨⟨trivial
   , ⟨_, rfl, fun sl hd hr ho => by
     refine r_load1 (hr 2 _ rfl rfl rfl) TG.agg3 rfl ?_
     exact awl_nil ⟨rfl, post_put⟩⟩⟩
   , ⟨_, rfl, fun sl hd hr ho => by
     refine r_load1 (hr 1 _ rfl rfl rfl) TG.agg39 rfl ?_
     exact awl_nil ⟨rfl, post_put⟩⟩⟩
   , ⟨_, rfl, fun sl hd hr ho => by
     refine r_move (hr 4 _ rfl rfl rfl) rfl ?_
     exact awl_nil ⟨rfl, post_put⟩⟩⟩
   , ⟨_, rfl, fun sl hd hr ho => by
     refine r_sliceL (hd 1 _ rfl rfl rfl) rfl (hd 2 _ rfl rfl rfl) TG.sl39 TG.sz45 (by omega) (by simp; omega) rfl ?_
     exact awl_nil ⟨rfl, post_put⟩⟩⟩
   , ⟨_, rfl, fun sl hd hr ho => by
     refine r_lenS (hd 3 _ rfl rfl rfl) rfl TG.sl39 rfl ?_
     exact awl_nil ⟨rfl, post_put⟩⟩⟩
   (by rfl) ?_
  refine r_minE (m := (e : Int)) rfl rfl (by subst he; simp; omega) rfl ?_
  refine r_assign rfl rfl ?_
  refine awl_nil ?_
  refine x_then ?_
  refine awp_seq ?_
  refine awp_regionI ?_
  refine awli_op (fun c h => (by cases h)) ?_
  refine r_move rfl rfl ?_
  refine awl_nil ⟨rfl, ?_⟩
  refine awli_op (fun c h => (by cases h)) ?_
  refine r_load1 rfl TG.agg39 rfl ?_
  refine awl_nil ⟨rfl, ?_⟩
  refine awli_op (fun c h => (by cases h)) ?_
  refine r_move rfl rfl ?_
  refine awl_nil ⟨rfl, ?_⟩
  refine awli_op (fun c h => (by cases h)) ?_
  refine r_move rfl rfl ?_
  refine awl_nil ⟨rfl, ?_⟩
  refine awli_op (fun c h => (by cases h)) ?_
  refine r_move rfl rfl ?_
  refine awl_nil ⟨rfl, ?_⟩
  refine awli_op (fun c h => (by cases h)) ?_
  refine r_ari _ rfl rfl rfl (wrap_id (by first | omega | (simp; omega))) rfl ?_
  refine awl_nil ⟨rfl, ?_⟩
  refine awli_op (fun c h => (by cases h)) ?_
  refine r_move rfl rfl ?_
  refine awl_nil ⟨rfl, ?_⟩
  refine awli_op (fun c h => (by cases h)) ?_
  refine r_move rfl rfl ?_
  refine awl_nil ⟨rfl, ?_⟩
  refine awli_op (fun c h => (by cases h)) ?_
  refine r_ari _ rfl rfl rfl (wrap_id (by first | omega | (simp; omega))) rfl ?_
  refine awl_nil ⟨rfl, ?_⟩
  refine awli_op (fun c h => (by cases h)) ?_
  refine r_slice3L rfl rfl rfl rfl rfl TG.sl39 TG.sz45 (by omega) (by omega) (by omega) (by simp; omega) rfl ?_
  refine awl_nil ⟨rfl, ?_⟩
  have hcp : ((W.map wrC).take (((8 * k : Nat) : Int) + (e : Int)).toNat).drop (((8 * k : Nat) : Int)).toNat = ((W.drop (8 * k)).take 8).map wrC := by rw [show (((8 * k : Nat) : Int) + (e : Int)).toNat = 8 * k + e by omega, Int.toNat_natCast]; exact chunkW_part hlt he
  rw [hcp]
  refine r_yield hq (un := []) (fun n => Tr n) rfl rfl (.cons (.ev rfl rfl) .nil) Cs hcs (hY ((cut8 k W).map rowW) (rowW ((W.drop (8 * k)).take 8)) wv hJ ⟨by rw [List.length_map, cut8_len]; exact m8_lt hlt, by rw [List.length_map, cut8_len]⟩) (by rw [List.append_nil]; exact List.Perm.refl _) (fun n => by rw [List.append_nil]) rfl (fun nobjs hJ' => ?_)
  refine awli_op (fun c h => (by cases h)) ?_
  refine r_not rfl rfl ?_
  refine awl_nil ⟨rfl, ?_⟩
  refine awli_nil ?_
  refine x_then ?_
  refine awp_cond rfl (fun hc1 => ?_) (fun hc1 => ?_)
  ·
   exfalso; simp at hc1
  ·
   refine awp_skip ?_
   refine x_block ?_
   refine x_then ?_
   refine awp_region ?_
   refine r_move rfl rfl ?_
   refine r_load1 rfl TG.agg3 rfl ?_
   refine r_ari _ rfl rfl rfl (wrap_id (by first | omega | (simp; omega))) rfl ?_
   refine r_assign rfl rfl ?_
   refine awl_nil ?_
   refine x_then ?_
   refine ⟨many8 W.length - (k + 1), ⟨31, [(0, .a (.v (.func (.yield l0) #[] #[]))), (1, .a (.cp [wrsA W])), (2, .a (.cp [.v (.int .i64 ((8 : Nat) : Int))])), (4, .a (.v (.int .i64 (((8 * (k + 1) : Nat) : Int)))))], Tr (nobjs)⟩, ⟨rfl, (Slots.cons rfl (by first | exact .refl _ | exact .nilOwn _ _ | exact .nilSl _ | exact .ownSl _ _ _  | exact SV.le.of_eq (by simp)) (Slots.cons rfl (by first | exact .refl _ | exact .nilOwn _ _ | exact .nilSl _ | exact .ownSl _ _ _  | exact SV.le.of_eq (by simp)) (Slots.cons rfl (by first | exact .refl _ | exact .nilOwn _ _ | exact .nilSl _ | exact .ownSl _ _ _  | exact SV.le.of_eq (by simp)) (Slots.cons rfl (by first | exact .refl _ | exact .nilOwn _ _ | exact .nilSl _ | exact .ownSl _ _ _  | exact SV.le.of_eq (by simp)) Slots.nil)))), (List.Sublist.refl _)⟩, (by have := m8_lt hlt; omega), ⟨k + 1, nobjs, rfl, rfl, (by have := m8_lt hlt; omega), (by rw [cut8_snoc, List.map_append]; exact hJ')⟩⟩
 ·
  have hge : W.length ≤ 8 * k := by have := of_decide_eq_false hc0; simp at this; omega
  obtain rfl : k = many8 W.length := by have := m8_ge hge; omega
  refine awp_exit ?_
  refine x_thenE ?_
  refine x_thenE ?_
  refine x_blockE ?_
  exact ⟨(.inr rfl), _, Tr wv, .none, ⟨_, wv, rfl, hJ, rfl⟩, (List.Sublist.refl _), tr_rwB⟩
theorem chunkW_ok (W : List Wr) : AC Tryd.prog 80 [wrsA W, .v (.int .i64 ((8 : Nat) : Int))] [] (fun r n => n = [] ∧ r = .fn 100 [.cp [wrsA W], .cp [.v (.int .i64 ((8 : Nat) : Int))]]) := by
 refine ac_of_awp (rs := [4]) (nt := 9) Tryd.func80 rfl rfl rfl rfl (fun w0 C0 hq => ?_)
 refine awp_seq ?_
 refine awp_region ?_
 refine r_box rfl rfl rfl (fun b2 => ?_)
 refine r_box rfl rfl rfl (fun b3 => ?_)
 refine r_assign rfl rfl ?_
 refine awl_nil ?_
 refine x_then ?_
 refine awp_seq ?_
 refine awp_seq ?_
 refine awp_region ?_
 refine r_load1b 0 rfl rfl rfl TG.agg3 rfl ?_
 refine r_cmp rfl rfl rfl rfl ?_
 refine awl_nil ?_
 refine x_then ?_
 refine awp_cond rfl (fun hc0 => ?_) (fun hc0 => ?_)
 ·
  exfalso; exact absurd hc0 (by decide)
 ·
  refine awp_skip ?_
  refine x_then ?_
  refine awp_seq ?_
  refine awp_region ?_
  refine awl_imp (imp_commit 0 3 rfl rfl rfl rfl) ?_
  refine awl_imp (imp_commit 0 2 rfl rfl rfl rfl) ?_
  refine r_makeFunc rfl (.cons (.ev rfl rfl) (.cons (.ev rfl rfl) .nil)) rfl ?_
  refine r_assign rfl rfl ?_
  refine awl_nil ?_
  refine x_then ?_
  refine awp_ret ?_
  exact ⟨(.inl rfl), _, [], (.one (by first | exact .mk rfl rfl | exact .nil rfl)), ⟨rfl, rfl⟩, (List.nil_sublist _), (by simp)⟩
set_option maxHeartbeats 1000000 in
theorem rowsG_ok (D : List Blk) (hD : D.length ≤ 100000) : AC Tryd.prog 46 [blksA D, .v (.int .i64 0)] [] (GrowT 41 3 ((rowsF D).map Deed.cs)) := by
 refine ac_of_awp (rs := [4]) (nt := 35) Tryd.func46 rfl rfl rfl rfl (fun w0 C0 hq => ?_)
 refine awp_seq ?_
 refine awp_region ?_
 refine r_assign rfl rfl ?_
 refine awl_nil ?_
 refine x_then ?_
 refine awp_seq ?_
 refine awp_region ?_
 refine r_alloc TG.zero37 rfl (fun b5 => ?_)
 refine awl_nil ?_
 refine x_then ?_
 refine awp_seq ?_
 refine awp_region ?_
 refine r_assign rfl rfl ?_
 refine awl_nil ?_
 refine x_then ?_
 refine awp_seq ?_
 refine awp_seq ?_
 refine awp_region ?_
 refine r_move rfl rfl ?_
 refine r_lenS rfl rfl TG.sl59 rfl ?_
 refine r_move rfl rfl ?_
 refine awl_nil ?_
 refine x_then ?_
 refine awp_block ?_
 refine awp_loop (fun nn0 S => ∃ k : Nat, S = ⟨35, [(1, .a (.v (.int .i64 (0)))), (5, .a (.v (.pointer (some ⟨b5, 0, none⟩)))), (6, .own 6 35 ((enumW 0 (D.take k)).map wrC)), (10, .a (blksA D)), (11, .a (.v (.int .i64 ((D.map blkC).length)))), (12, .a (.v (.int .i64 ((k : Int)))))], [⟨b5, true, .box [.v (.slice none 0 0)]⟩]⟩ ∧ nn0 = D.length - k ∧ (k ≤ D.length)) (D.length - (0)) ⟨35, [(1, .a (.v (.int .i64 (0)))), (5, .a (.v (.pointer (some ⟨b5, 0, none⟩)))), (6, .own 6 35 ((enumW 0 (D.take (0))).map wrC)), (10, .a (blksA D)), (11, .a (.v (.int .i64 ((D.map blkC).length)))), (12, .a (.v (.int .i64 (((0) : Int)))))], [⟨b5, true, .box [.v (.slice none 0 0)]⟩]⟩ ⟨rfl, (Slots.cons rfl (by first | exact .refl _ | exact .nilOwn _ _ | exact .nilSl _ | exact .ownSl _ _ _  | exact SV.le.of_eq (by simp)) (Slots.cons rfl (by first | exact .refl _ | exact .nilOwn _ _ | exact .nilSl _ | exact .ownSl _ _ _  | exact SV.le.of_eq (by simp)) (Slots.cons rfl (by first | exact .refl _ | exact .nilOwn _ _ | exact .nilSl _ | exact .ownSl _ _ _  | exact SV.le.of_eq (by simp)) (Slots.cons rfl (by first | exact .refl _ | exact .nilOwn _ _ | exact .nilSl _ | exact .ownSl _ _ _  | exact SV.le.of_eq (by simp)) (Slots.cons rfl (by first | exact .refl _ | exact .nilOwn _ _ | exact .nilSl _ | exact .ownSl _ _ _  | exact SV.le.of_eq (by simp)) (Slots.cons rfl (by first | exact .refl _ | exact .nilOwn _ _ | exact .nilSl _ | exact .ownSl _ _ _  | exact SV.le.of_eq (by simp)) Slots.nil)))))), (by first | exact List.Sublist.refl _ | exact .cons_cons _ (.cons _ (.refl _)) | exact List.nil_sublist _ | exact .cons _ (.refl _) | exact .cons _ (.cons _ (.refl _)) | exact .cons _ (.cons _ (.cons _ (.refl _))) | exact .cons _ (.cons _ (.cons _ (.cons _ (.refl _)))) | exact .cons_cons _ (List.nil_sublist _))⟩ ⟨0, rfl, rfl, Nat.zero_le _⟩ ?_
 rintro nn0 _ ⟨k, rfl, rfl, hk⟩
 refine awp_seq ?_
 refine awp_region ?_
 refine r_cmp rfl rfl rfl rfl ?_
 refine awl_nil ?_
 refine x_then ?_
 refine awp_seq ?_
 refine awp_cond rfl (fun hc0 => ?_) (fun hc0 => ?_)
 ·
  have hltx : k < D.length := by have := of_decide_eq_true hc0; simpa using this
  obtain ⟨x, hx⟩ := get_lt hltx
  have hel := enumW_len (D.take k) 0
  have htk : (D.take k).length = k := by rw [List.length_take]; omega
  refine awp_skip ?_
  refine x_then ?_
  refine awp_seq ?_
  refine awp_block ?_
  refine awp_seq ?_
  refine awp_region ?_
  refine r_move rfl rfl ?_
  refine r_index rfl rfl rfl TG.sl59 TG.sz33 (by omega) (get_map hx) rfl ?_
  refine r_loadA rfl TG.agg33 TG.sz33 rfl rfl ?_
  refine r_alloc TG.zero33 rfl (fun b8 => ?_)
  refine r_assign rfl rfl ?_
  refine r_store 0 rfl rfl rfl TG.sz33 rfl rfl rfl ?_
  refine awl_nil ?_
  refine x_then ?_
  refine awp_region ?_
  refine r_move rfl rfl ?_
  refine r_move rfl rfl ?_
  refine r_move rfl rfl ?_
  refine r_build (parts := [(1, .tmp 18), (2, .tmp 19)]) rfl TG.pl43 TG.zero43 rfl rfl rfl ?_
  refine r_loadAbe 0 (blkC x) rfl rfl rfl TG.agg33 TG.sz33 rfl rfl ?_
  refine r_build (parts := [(0, .tmp 20), (1, .tmp 21)]) rfl TG.pl45 TG.zero45 rfl rfl rfl ?_
  refine r_lit 23 (parts := [(0, .tmp 22)]) rfl TG.sl39 TG.sz45 TG.zraw45 rfl rfl rfl rfl rfl rfl rfl ?_
  refine r_append 6 rfl (by first | exact .own _ | exact .nil) rfl (by first | exact .sl _ | exact .own _ _ | exact .nil) TG.sl39 TG.sz45 (by decide) TG.by45 TG.zlen45 (by simp [chunks] <;> omega) (by simp [chunks] <;> omega) rfl ?_
  refine r_assign rfl rfl ?_
  refine awl_nil ?_
  refine x_block ?_
  refine x_then ?_
  refine awp_region ?_
  refine r_ari _ rfl rfl rfl (wrap_id (by first | omega | (simp; omega))) rfl ?_
  refine r_move rfl rfl ?_
  refine awl_nil ?_
  refine x_then ?_
  have hstep : (enumW 0 (D.take (k + 1))) = (enumW 0 (D.take k)) ++ [(k, x)] := by rw [takeS hx, enumW_snoc, List.length_take, Nat.min_eq_left (by omega), Nat.zero_add]
  refine ⟨D.length - (k + 1), ⟨35, [(1, .a (.v (.int .i64 (0)))), (5, .a (.v (.pointer (some ⟨b5, 0, none⟩)))), (6, .own 6 35 ((enumW 0 (D.take (k + 1))).map wrC)), (10, .a (blksA D)), (11, .a (.v (.int .i64 ((D.map blkC).length)))), (12, .a (.v (.int .i64 (((k + 1) : Int)))))], [⟨b5, true, .box [.v (.slice none 0 0)]⟩]⟩, ⟨rfl, (Slots.cons rfl (by first | exact .refl _ | exact .nilOwn _ _ | exact .nilSl _ | exact .ownSl _ _ _  | exact SV.le.ownEq (by first | rfl | (rw [hstep, List.map_append]; rfl)) | exact SV.le.of_eq (by first | rfl | (rw [hstep, List.map_append]; rfl))) (Slots.cons rfl (by first | exact .refl _ | exact .nilOwn _ _ | exact .nilSl _ | exact .ownSl _ _ _  | exact SV.le.ownEq (by first | rfl | (rw [hstep, List.map_append]; rfl)) | exact SV.le.of_eq (by first | rfl | (rw [hstep, List.map_append]; rfl))) (Slots.cons rfl (by first | exact .refl _ | exact .nilOwn _ _ | exact .nilSl _ | exact .ownSl _ _ _  | exact SV.le.ownEq (by first | rfl | (rw [hstep, List.map_append]; rfl)) | exact SV.le.of_eq (by first | rfl | (rw [hstep, List.map_append]; rfl))) (Slots.cons rfl (by first | exact .refl _ | exact .nilOwn _ _ | exact .nilSl _ | exact .ownSl _ _ _  | exact SV.le.ownEq (by first | rfl | (rw [hstep, List.map_append]; rfl)) | exact SV.le.of_eq (by first | rfl | (rw [hstep, List.map_append]; rfl))) (Slots.cons rfl (by first | exact .refl _ | exact .nilOwn _ _ | exact .nilSl _ | exact .ownSl _ _ _  | exact SV.le.ownEq (by first | rfl | (rw [hstep, List.map_append]; rfl)) | exact SV.le.of_eq (by first | rfl | (rw [hstep, List.map_append]; rfl))) (Slots.cons rfl (by first | exact .refl _ | exact .nilOwn _ _ | exact .nilSl _ | exact .ownSl _ _ _  | exact SV.le.ownEq (by first | rfl | (rw [hstep, List.map_append]; rfl)) | exact SV.le.of_eq (by first | rfl | (rw [hstep, List.map_append]; rfl))) Slots.nil)))))), (.cons _ (.refl _))⟩, (by omega), ⟨k + 1, rfl, rfl, (by omega)⟩⟩
 ·
  have hge : D.length ≤ k := by have := of_decide_eq_false hc0; simp at this; omega
  rw [List.take_of_length_le hge]
  have hel := enumW_len D 0
  refine awp_exit ?_
  refine x_thenE ?_
  refine x_thenE ?_
  refine x_blockE ?_
  refine x_then ?_
  refine awp_seq ?_
  refine awp_seq ?_
  refine awp_region ?_
  refine r_move rfl rfl ?_
  refine r_call0 hq rfl rfl (.cons (.ev rfl rfl) (.cons (.ev rfl rfl) .nil)) (chunkW_ok (enumW 0 D)) rfl TG.en80 rfl (fun r hr => ?_)
  obtain rfl := hr
  refine awl_nil ?_
  refine x_then ?_
  refine awp_block ?_
  refine awp_rangeFunc (fun pre wo => pre = (cut8 pre.length (enumW 0 D)).map rowW ∧ GrowD 41 b5 ((cut8 pre.length (enumW 0 D)).map mkD) wo) [(5, .a (.v (.pointer (some ⟨b5, 0, none⟩))))] [true] hq rfl (chunkW1_ok (enumW 0 D) (by omega)) TG.en100 (fun pre x h => by obtain ⟨_, rfl⟩ := h; rfl) rfl rfl rfl (List.Sublist.refl _) (Slots.cons rfl (by first | exact .refl _ | exact .nilOwn _ _ | exact .nilSl _ | exact .ownSl _ _ _  | exact SV.le.of_eq (by simp)) Slots.nil) rfl rfl ⟨rfl, .inl ⟨rfl, rfl⟩⟩ ?_ ?_
  ·
   intro lr pre x wo rec busy w0 C0 hq hj hax
   obtain ⟨hpre, hgb⟩ := hj
   obtain ⟨hlen, rfl⟩ := hax
   obtain ⟨m, hm⟩ : ∃ m, m = pre.length := ⟨_, rfl⟩
   rw [← hm] at hpre hgb hlen ⊢
   have hml : many8 (enumW 0 D).length ≤ 100000 := by unfold many8; omega
   have hsn := cut8_snoc m (enumW 0 D)
   have hcl := cut8_len m (enumW 0 D)
   have hpl : (pre ++ [rowW (((enumW 0 D).drop (8 * m)).take 8)]).length = m + 1 := by rw [List.length_append, ← hm]; rfl
   rcases hgb with ⟨h0, rfl⟩ | ⟨h0, g, cap, rfl⟩
   ·
    have hm0 : cut8 m (enumW 0 D) = [] := List.map_eq_nil_iff.1 h0
    rw [hm0, List.nil_append] at hsn
    refine awpi_region ?_
    refine awli_op (fun c h => (by cases h)) ?_
    refine r_assign rfl rfl ?_
    refine awl_nil ⟨rfl, ?_⟩
    refine awli_nil ?_
    refine ⟨rfl, 1, rfl, ?_⟩
    refine awpi_block ?_
    refine awpi_region ?_
    refine awli_op (fun c h => (by cases h)) ?_
    refine r_load1b 0 rfl rfl rfl TG.agg37 rfl ?_
    refine awl_nil ⟨rfl, ?_⟩
    refine awli_op (fun c h => (by cases h)) ?_
    refine r_move rfl rfl ?_
    refine awl_nil ⟨rfl, ?_⟩
    refine awli_op (fun c h => (by cases h)) ?_
    refine r_build (parts := [(0, .const ((Go.Value.int Go.IntKind.i64 1))), (1, .tmp 30)]) rfl TG.pl41 TG.zero41 rfl rfl rfl ?_
    refine awl_nil ⟨rfl, ?_⟩
    refine awli_op (fun c h => (by cases h)) ?_
    refine r_lit 32 (parts := [(0, .tmp 31)]) rfl TG.sl37 TG.sz41 TG.zraw41 rfl rfl rfl rfl rfl rfl rfl ?_
    refine awl_nil ⟨rfl, ?_⟩
    refine awli_op (fun c h => (by cases h)) ?_
    refine r_appendBN rfl rfl (by first | exact .sl _ | exact .own _ _) (by simp [chunks]) TG.sl37 TG.sz41 TG.by41 TG.zlen41 (by simp [chunks, hcl] <;> omega) (by simp [chunks, hcl] <;> omega) rfl (fun gb gc => ?_)
    refine awl_nil ⟨rfl, ?_⟩
    refine awli_op (fun c h => (by cases h)) ?_
    refine r_store 1 rfl rfl rfl TG.sz37 rfl rfl rfl ?_
    refine awl_nil ⟨rfl, ?_⟩
    refine awli_nil ?_
    refine x_block ?_
    refine ⟨rfl, _, ⟨by rw [hpl, cut8_snoc, List.map_append, ← hpre]; rfl, by rw [hpl, hsn]; exact .inr ⟨by simp, gb, gc, rfl⟩⟩, ?_, by simp⟩
    first | exact List.Sublist.refl _ | exact .cons_cons _ (.cons _ (.refl _)) | exact List.nil_sublist _ | exact .cons _ (.refl _) | exact .cons _ (.cons _ (.refl _)) | exact .cons _ (.cons _ (.cons _ (.refl _))) | exact .cons _ (.cons _ (.cons _ (.cons _ (.refl _)))) | exact .cons_cons _ (List.nil_sublist _)
   ·
    refine awpi_region ?_
    refine awli_op (fun c h => (by cases h)) ?_
    refine r_assign rfl rfl ?_
    refine awl_nil ⟨rfl, ?_⟩
    refine awli_nil ?_
    refine ⟨rfl, 2, rfl, ?_⟩
    refine awpi_block ?_
    refine awpi_region ?_
    refine awli_op (fun c h => (by cases h)) ?_
    refine r_load1b 1 rfl rfl rfl TG.agg37 rfl ?_
    refine awl_nil ⟨rfl, ?_⟩
    refine awli_op (fun c h => (by cases h)) ?_
    refine r_move rfl rfl ?_
    refine awl_nil ⟨rfl, ?_⟩
    refine awli_op (fun c h => (by cases h)) ?_
    refine r_build (parts := [(0, .const ((Go.Value.int Go.IntKind.i64 1))), (1, .tmp 30)]) rfl TG.pl41 TG.zero41 rfl rfl rfl ?_
    refine awl_nil ⟨rfl, ?_⟩
    refine awli_op (fun c h => (by cases h)) ?_
    refine r_lit 32 (parts := [(0, .tmp 31)]) rfl TG.sl37 TG.sz41 TG.zraw41 rfl rfl rfl rfl rfl rfl rfl ?_
    refine awl_nil ⟨rfl, ?_⟩
    refine awli_op (fun c h => (by cases h)) ?_
    refine r_appendBG 0 rfl rfl rfl rfl (by first | exact .sl _ | exact .own _ _) (by simp [chunks]) TG.sl37 TG.sz41 TG.by41 TG.zlen41 (by simp [chunks, hcl] <;> omega) (by simp [chunks, hcl] <;> omega) rfl (fun gb gc => ?_)
    refine awl_nil ⟨rfl, ?_⟩
    refine awli_op (fun c h => (by cases h)) ?_
    refine r_store 1 rfl rfl rfl TG.sz37 rfl rfl rfl ?_
    refine awl_nil ⟨rfl, ?_⟩
    refine awli_nil ?_
    refine x_block ?_
    refine ⟨rfl, _, ⟨by rw [hpl, cut8_snoc, List.map_append, ← hpre]; rfl, by rw [hpl, hsn, List.map_append]; exact .inr ⟨by simp, gb, gc, rfl⟩⟩, ?_, by simp⟩
    simp only [List.map_append, List.map_cons, List.map_nil]
    first | exact List.Sublist.refl _ | exact .cons_cons _ (.cons _ (.refl _)) | exact List.nil_sublist _ | exact .cons _ (.refl _) | exact .cons _ (.cons _ (.refl _)) | exact .cons _ (.cons _ (.cons _ (.refl _))) | exact .cons _ (.cons _ (.cons _ (.cons _ (.refl _)))) | exact .cons_cons _ (List.nil_sublist _)
  ·
   intro xs wo' hG hJ
   obtain ⟨hpre, hgb⟩ := hJ
   obtain rfl := hG
   rw [List.length_map, cut8_len, hel] at hgb
   rcases hgb with ⟨h0, rfl⟩ | ⟨h0, g, cap, rfl⟩
   ·
    refine x_block ?_
    refine x_then ?_
    refine awp_seq ?_
    refine awp_region ?_
    refine r_load1b 0 rfl rfl rfl TG.agg37 rfl ?_
    refine r_assign rfl rfl ?_
    refine awl_nil ?_
    refine x_then ?_
    refine awp_ret ?_
    exact ⟨(.inl rfl), _, [], (.one (by first | exact .mk rfl rfl | exact .nil rfl)), (.inl ⟨by rw [rowsF, h0]; rfl, rfl, rfl⟩), (List.nil_sublist _), (by simp)⟩
   ·
    refine x_block ?_
    refine x_then ?_
    refine awp_seq ?_
    refine awp_region ?_
    refine r_load1b 1 rfl rfl rfl TG.agg37 rfl ?_
    refine r_assign rfl rfl ?_
    refine awl_nil ?_
    refine x_then ?_
    refine awp_ret ?_
    exact ⟨(.inl rfl), _, [⟨g, true, .buf 3 ((rowsF D).map Deed.cs) cap 41⟩], (.one (by first | exact .mk rfl rfl | exact .nil rfl)), (.inr ⟨g, cap, rfl, rfl⟩), (by first | exact List.Sublist.refl _ | exact .cons_cons _ (.cons _ (.refl _)) | exact List.nil_sublist _ | exact .cons _ (.refl _) | exact .cons _ (.cons _ (.refl _)) | exact .cons _ (.cons _ (.cons _ (.refl _))) | exact .cons _ (.cons _ (.cons _ (.cons _ (.refl _)))) | exact .cons_cons _ (List.nil_sublist _)), (by simp)⟩
end Go.Proofs.YtcbhhjahjnlfhaaDoor.A
namespace Go.Proofs.YtcbhhjahjnlfhaaDoor.A
open Go Go.RowKit
set_option linter.unusedVariables false
set_option linter.unusedSimpArgs false
set_option maxRecDepth 100000
theorem TG.en79 : entersT Tryd.prog 79 := enters_of Tryd.func79 (by kernel_rfl) (by kernel_rfl)
theorem cloneB_ok (l : List UInt8) (hl : l.length ≤ 1000000) : AC Tryd.prog 79 [bts l] [] (GrowB 1 (u8s l)) := by
 refine ac_of_awp (rs := [2]) (nt := 8) Tryd.func79 rfl rfl rfl rfl (fun w0 C0 hq => ?_)
 refine awp_seq ?_
 refine awp_region ?_
 refine r_assign rfl rfl ?_
 refine awl_nil ?_
 refine x_then ?_
 refine awp_seq ?_
 refine awp_seq ?_
 refine awp_region ?_
 refine r_move rfl rfl ?_
 refine r_slnil rfl rfl TG.sl22 rfl (fun b4 hb4 => ?_)
 refine awl_nil ?_
 refine x_then ?_
 refine awp_cond rfl (fun hc0 => ?_) (fun hc0 => ?_)
 ·
  obtain rfl : l = [] := by simpa [u8s] using hb4 hc0
  refine awp_seq ?_
  refine awp_region ?_
  refine r_assign rfl rfl ?_
  refine awl_nil ?_
  refine x_then ?_
  refine awp_ret ?_
  refine x_thenR ?_
  exact ⟨(.inl rfl), _, [], (.one (by first | exact .mk rfl rfl | exact .nil rfl)), (.inl ⟨rfl, rfl, rfl⟩), (List.nil_sublist _), (by simp)⟩
 ·
  refine awp_skip ?_
  refine x_then ?_
  refine awp_seq ?_
  refine awp_region ?_
  refine r_lit 5 (parts := []) rfl TG.sl22 TG.sz5 TG.zraw5 rfl rfl rfl rfl rfl rfl rfl ?_
  refine r_move rfl rfl ?_
  refine r_append 5 rfl (by first | exact .own _ | exact .nil) rfl (by first | exact .sl _ | exact .own _ _ | exact .nil) TG.sl22 TG.sz5 (by decide) TG.by5 TG.zlen5 (by simp [chunks, u8s]; omega) (by simp [chunks, u8s]; omega) rfl ?_
  refine awl_ownbuf 7 (l := u8s l) rfl (u8s_flat l) rfl (fun h0 => ?_) (fun gb gc ge => ?_)
  ·
   refine r_assign rfl rfl ?_
   refine awl_nil ?_
   refine x_then ?_
   refine awp_ret ?_
   exact ⟨(.inl rfl), _, [], (.one (by first | exact .mk rfl rfl | exact .nil rfl)), (.inl ⟨h0, rfl, rfl⟩), (List.nil_sublist _), (by simp)⟩
  ·
   refine r_assign rfl rfl ?_
   refine awl_nil ?_
   refine x_then ?_
   refine awp_ret ?_
   exact ⟨(.inl rfl), _, [⟨gb, true, .buf 1 (u8s l) gc ge⟩], (.one (by first | exact .mk rfl rfl | exact .nil rfl)), (.inr ⟨gb, gc, ge, rfl, rfl⟩), (by first | exact List.Sublist.refl _ | exact .cons_cons _ (.cons _ (.refl _)) | exact List.nil_sublist _ | exact .cons _ (.refl _) | exact .cons _ (.cons _ (.refl _)) | exact .cons _ (.cons _ (.cons _ (.refl _))) | exact .cons _ (.cons _ (.cons _ (.cons _ (.refl _)))) | exact .cons_cons _ (List.nil_sublist _)), (by simp)⟩
theorem locked_ok (data : List UInt8) (key : UInt8) (hd : data.length ≤ 1000000) : AC Tryd.prog 45 [bts data, .v (.int .u8 key.toNat)] [] (fun r n => n = [] ∧ r = bts (lockF data key)) := by
 refine ac_of_awp (rs := [4]) (nt := 27) Tryd.func45 rfl rfl rfl rfl (fun w0 C0 hq => ?_)
 refine awp_seq ?_
 refine awp_region ?_
 refine r_assign rfl rfl ?_
 refine awl_nil ?_
 refine x_then ?_
 refine awp_seq ?_
 refine awp_region ?_
 refine r_move rfl rfl ?_
 refine r_callO hq rfl rfl (.cons (.ev rfl rfl) .nil) (cloneB_ok data hd) rfl TG.en79 (List.nil_sublist _) rfl (fun r nobjs hr => ?_)
 rcases hr with ⟨h0, rfl, rfl⟩ | ⟨g, cap, e, rfl, rfl⟩
 ·
  obtain rfl : data = [] := by simpa [u8s] using h0
  refine r_assign rfl rfl ?_
  refine awl_nil ?_
  refine x_then ?_
  refine awp_seq ?_
  refine awp_seq ?_
  refine awp_region ?_
  refine r_move rfl rfl ?_
  refine r_lenNil rfl TG.sl22 rfl ?_
  refine r_move rfl rfl ?_
  refine awl_nil ?_
  refine x_then ?_
  refine awp_block ?_
  refine awp_loop (fun nn0 S => S = ⟨27, [(5, .a (.v (.slice none 0 0))), (10, .a (.v (.int .i64 (0)))), (11, .a (.v (.int .i64 (0))))], []⟩ ∧ nn0 = 0) (0) ⟨27, [(5, .a (.v (.slice none 0 0))), (10, .a (.v (.int .i64 (0)))), (11, .a (.v (.int .i64 (0))))], []⟩ ⟨rfl, (Slots.cons rfl (by first | exact .refl _ | exact .nilOwn _ _ | exact .nilSl _ | exact .ownSl _ _ _  | exact SV.le.of_eq (by simp)) (Slots.cons rfl (by first | exact .refl _ | exact .nilOwn _ _ | exact .nilSl _ | exact .ownSl _ _ _  | exact SV.le.of_eq (by simp)) (Slots.cons rfl (by first | exact .refl _ | exact .nilOwn _ _ | exact .nilSl _ | exact .ownSl _ _ _  | exact SV.le.of_eq (by simp)) Slots.nil))), (by first | exact List.Sublist.refl _ | exact .cons_cons _ (.cons _ (.refl _)) | exact List.nil_sublist _ | exact .cons _ (.refl _) | exact .cons _ (.cons _ (.refl _)) | exact .cons _ (.cons _ (.cons _ (.refl _))) | exact .cons _ (.cons _ (.cons _ (.cons _ (.refl _)))) | exact .cons_cons _ (List.nil_sublist _))⟩ ⟨rfl, rfl⟩ ?_
  rintro nn0 _ ⟨rfl, rfl⟩
  refine awp_seq ?_
  refine awp_region ?_
  refine r_cmp rfl rfl rfl rfl ?_
  refine awl_nil ?_
  refine x_then ?_
  refine awp_seq ?_
  refine awp_cond rfl (fun hc0 => ?_) (fun hc0 => ?_)
  ·
   exfalso; have := of_decide_eq_true hc0; omega
  ·
   refine awp_exit ?_
   refine x_thenE ?_
   refine x_thenE ?_
   refine x_blockE ?_
   refine x_then ?_
   refine awp_seq ?_
   refine awp_region ?_
   refine r_move rfl rfl ?_
   refine r_assign rfl rfl ?_
   refine awl_nil ?_
   refine x_then ?_
   refine awp_ret ?_
   exact ⟨(.inl rfl), _, [], (.one (.nil (sz := 1) rfl)), ⟨rfl, rfl⟩, (List.nil_sublist _), (by simp)⟩
 ·
  refine awl_bufBoxL 0 rfl (fun ext hcap hext => ?_)
  rw [u8sL] at hcap
  have hext2 : data.length + ext.length = cap := by rw [bcel_flat, bcel_len] at hext; omega
  rw [u8sL]
  refine r_assign rfl rfl ?_
  refine awl_nil ?_
  refine x_then ?_
  refine awp_seq ?_
  refine awp_seq ?_
  refine awp_region ?_
  refine r_move rfl rfl ?_
  refine r_lenV rfl TG.sl22 rfl ?_
  refine r_move rfl rfl ?_
  refine awl_nil ?_
  refine x_then ?_
  refine awp_block ?_
  refine awp_loop (fun nn0 S => ∃ k : Nat, S = ⟨27, [(1, .a (.v (.int .u8 (key.toNat)))), (5, .a (.v (.slice (some ⟨g, 0, none⟩) data.length cap))), (10, .a (.v (.int .i64 ((data.length : Int))))), (11, .a (.v (.int .i64 ((k : Int)))))], [⟨g, true, .box (lkC data key k ext)⟩]⟩ ∧ nn0 = data.length - k ∧ (k ≤ data.length)) (data.length - (0)) ⟨27, [(1, .a (.v (.int .u8 (key.toNat)))), (5, .a (.v (.slice (some ⟨g, 0, none⟩) data.length cap))), (10, .a (.v (.int .i64 ((data.length : Int))))), (11, .a (.v (.int .i64 (((0) : Int)))))], [⟨g, true, .box (lkC data key (0) ext)⟩]⟩ ⟨rfl, (Slots.cons rfl (by first | exact .refl _ | exact .nilOwn _ _ | exact .nilSl _ | exact .ownSl _ _ _  | exact SV.le.of_eq (by simp)) (Slots.cons rfl (by first | exact .refl _ | exact .nilOwn _ _ | exact .nilSl _ | exact .ownSl _ _ _  | exact SV.le.of_eq (by simp)) (Slots.cons rfl (by first | exact .refl _ | exact .nilOwn _ _ | exact .nilSl _ | exact .ownSl _ _ _  | exact SV.le.of_eq (by simp)) (Slots.cons rfl (by first | exact .refl _ | exact .nilOwn _ _ | exact .nilSl _ | exact .ownSl _ _ _  | exact SV.le.of_eq (by simp)) Slots.nil)))), (by rw [lk_zero]; exact List.Sublist.refl _)⟩ ⟨0, rfl, rfl, Nat.zero_le _⟩ ?_
  rintro nn0 _ ⟨k, rfl, rfl, hk⟩
  refine awp_seq ?_
  refine awp_region ?_
  refine r_cmp rfl rfl rfl rfl ?_
  refine awl_nil ?_
  refine x_then ?_
  refine awp_seq ?_
  refine awp_cond rfl (fun hc0 => ?_) (fun hc0 => ?_)
  ·
   have hltx : k < data.length := by have := of_decide_eq_true hc0; omega
   obtain ⟨x, hx⟩ := get_lt hltx
   refine awp_skip ?_
   refine x_then ?_
   refine awp_seq ?_
   refine awp_block ?_
   refine awp_seq ?_
   refine awp_region ?_
   refine r_move rfl rfl ?_
   refine r_assign rfl rfl ?_
   refine awl_nil ?_
   refine x_then ?_
   refine awp_region ?_
   refine r_move rfl rfl ?_
   refine r_move rfl rfl ?_
   refine r_indexV rfl rfl TG.sl22 TG.sz5 (by omega) (by omega) rfl ?_
   refine r_load1b 0 rfl rfl (lk_at hx (by omega)) TG.agg5 rfl ?_
   refine r_move rfl rfl ?_
   refine r_move rfl rfl ?_
   refine r_conv (k.toUInt8.toNat : Int) rfl TG.un3 TG.un5 (u8_of k) rfl ?_
   refine r_ari ((37 * k.toUInt8 : UInt8).toNat : Int) rfl rfl rfl (u8_mul 37 _) rfl ?_
   refine r_ari ((key + 37 * k.toUInt8 : UInt8).toNat : Int) rfl rfl rfl (u8_add _ _) rfl ?_
   refine r_bits ((lockB key k x).toNat : Int) rfl rfl rfl (u8_xor _ _) rfl ?_
   refine r_indexV rfl rfl TG.sl22 TG.sz5 (by omega) (by omega) rfl ?_
   refine r_store 0 rfl rfl rfl TG.sz5 rfl (Nat.ble_eq_true_of_le (by rw [lk_len hk]; omega)) rfl ?_
   refine awl_imp (imp_boxEq 0 (lkC data key (k + 1) ext) rfl (lk_step2 hx (by omega) (by omega))) ?_
   refine awl_nil ?_
   refine x_block ?_
   refine x_then ?_
   refine awp_region ?_
   refine r_ari _ rfl rfl rfl (wrap_id (by first | omega | (simp; omega))) rfl ?_
   refine r_move rfl rfl ?_
   refine awl_nil ?_
   refine x_then ?_
   refine ⟨data.length - (k + 1), ⟨27, [(1, .a (.v (.int .u8 (key.toNat)))), (5, .a (.v (.slice (some ⟨g, 0, none⟩) data.length cap))), (10, .a (.v (.int .i64 ((data.length : Int))))), (11, .a (.v (.int .i64 (((k + 1) : Int)))))], [⟨g, true, .box (lkC data key (k + 1) ext)⟩]⟩, ⟨rfl, (Slots.cons rfl (by first | exact .refl _ | exact .nilOwn _ _ | exact .nilSl _ | exact .ownSl _ _ _  | exact SV.le.of_eq (by simp)) (Slots.cons rfl (by first | exact .refl _ | exact .nilOwn _ _ | exact .nilSl _ | exact .ownSl _ _ _  | exact SV.le.of_eq (by simp)) (Slots.cons rfl (by first | exact .refl _ | exact .nilOwn _ _ | exact .nilSl _ | exact .ownSl _ _ _  | exact SV.le.of_eq (by simp)) (Slots.cons rfl (by first | exact .refl _ | exact .nilOwn _ _ | exact .nilSl _ | exact .ownSl _ _ _  | exact SV.le.of_eq (by simp)) Slots.nil)))), (by first | exact List.Sublist.refl _ | exact .cons_cons _ (.cons _ (.refl _)) | exact List.nil_sublist _ | exact .cons _ (.refl _) | exact .cons _ (.cons _ (.refl _)) | exact .cons _ (.cons _ (.cons _ (.refl _))) | exact .cons _ (.cons _ (.cons _ (.cons _ (.refl _)))) | exact .cons_cons _ (List.nil_sublist _))⟩, (by omega), ⟨k + 1, rfl, rfl, (by omega)⟩⟩
  ·
   have hge : data.length ≤ k := by have := of_decide_eq_false hc0; omega
   refine awp_exit ?_
   refine x_thenE ?_
   refine x_thenE ?_
   refine x_blockE ?_
   refine x_then ?_
   refine awp_seq ?_
   refine awp_region ?_
   rw [lk_end _ _ _ hge]
   refine awl_imp (imp_commitS 0 5 (sz := 1) (l := u8s (lockF data key)) (ext := ext) rfl rfl rfl (by rw [u8sL, lockF_len]) hcap (fun c hc => by obtain ⟨x, _, rfl⟩ := List.mem_map.1 hc; rfl) (by rw [List.length_append, bcel_flat, bcel_len, lockF_len, Nat.mul_one]; omega) (by rw [bcel_flat]; exact List.all_eq_true.2 (fun c hc => by obtain ⟨x, _, rfl⟩ := List.mem_map.1 hc; rfl))) ?_
   refine r_move rfl rfl ?_
   refine r_assign rfl rfl ?_
   refine awl_nil ?_
   refine x_then ?_
   refine awp_ret ?_
   exact ⟨(.inl rfl), _, [], (.one (by first | exact .mk rfl rfl | exact .nil rfl)), ⟨rfl, rfl⟩, (List.nil_sublist _), (by simp)⟩
end Go.Proofs.YtcbhhjahjnlfhaaDoor.A

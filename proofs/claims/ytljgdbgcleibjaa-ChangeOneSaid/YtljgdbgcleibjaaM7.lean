import Derived.WalkKit
import Derived.Below
import Derived.Laws.Rows
import Derived.Laws.CopyRow
import Derived.Laws.AppendOwn
import Derived.RangeFuncLeaves
import Derived.RangeFuncSeq
import Derived.RangeFuncCalls
import Derived.MapKept
import Derived.Orders
import Derived.Laws.IdiomStrings
import Derived.Laws.BytesArg
import Derived.Shelf.SlIter.Nil
import Derived.RangeFuncBound
import Derived.Maps.RangeRun
import Derived.DeepKeys3
import Derived.Laws.StructEq
import Derived.Shelf.SlSortCmp.NoneTotal
import Derived.ChangeKeysEq
import Derived.Laws.MakeOwn
import Derived.ChangeArms
import Derived.ChangeOld
import Derived.Laws.DeepStrings4
import Derived.OpenShut
import Derived.Test.YtljgdbgcleibjaaProg
import Derived.KernelRfl
import Derived.OrdersIn
import Derived.Lib.AppendZeros
import Derived.Lib.AppendZerosOnto
import Derived.Lib.Overlaps
import Derived.Deep.AppendSrc
import Derived.Shelf.SlGeneric
import Derived.Ground.SlsfProg
import Derived.Test.YtljgdbgcleibjaaM6
namespace Go.Proofs.Ytljgdbgcleibjaa.A
open Go Go.RowKit
set_option linter.unusedVariables false
set_option linter.unusedSimpArgs false
set_option maxRecDepth 100000
theorem TF.sl25 : sliceT Try.prog 25 = some 57 := by kernel_rfl
theorem TF.sz57 : szT Try.prog 57 = some 5 := by kernel_rfl
theorem TF.agg57 : aggT Try.prog 57 = some true := by kernel_rfl
theorem TF.f57_0 : fieldT Try.prog 57 0 = some (0, 47) := by kernel_rfl
theorem TF.zraw57 : zeroT Try.prog 57 = some [(.int .i64 0), (.int .i64 0), (.int .i64 0), (.int .u64 0), (.int .u64 0)] := by kernel_rfl
theorem TF.by57 : bytesT Try.prog 57 = some 40 := by kernel_rfl
theorem TF.zlen57 : (zeroT Try.prog 57).map (·.length) = some 5 := by kernel_rfl
theorem TF.pl57 : placesT Try.prog 57 = some [(0, 4), (4, 1)] := by kernel_rfl
theorem TF.zero57 : ZeroT Try.prog 57 [.v (.int .i64 0), .v (.int .i64 0), .v (.int .i64 0), .v (.int .u64 0), .v (.int .u64 0)] := ⟨[(.int .i64 0), (.int .i64 0), (.int .i64 0), (.int .u64 0), (.int .u64 0)], by kernel_rfl, (LeCells.refl _)⟩
theorem TF.en34 : entersT Try.prog 34 := enters_of Try.func34 (by kernel_rfl) (by kernel_rfl)
theorem flat55 : FlatT Try.prog 55 chK := ⟨by kernel_rfl, by kernel_rfl, by kernel_rfl, by kernel_rfl⟩
theorem before34 (a b : Sp) : AC Try.prog 34 [spA a, spA b] [] (fun r n => n = [] ∧ r = boolA (decide (a.lt b))) := by
 refine ac_of_awp (rs := [4]) (nt := 52) Try.func34 rfl rfl rfl rfl (fun w0 C0 hq => ?_)
 refine awp_seq ?_
 refine awp_region ?_
 refine r_box rfl rfl rfl (fun b2 => ?_)
 refine r_box rfl rfl rfl (fun b3 => ?_)
 refine r_assign rfl rfl ?_
 refine awl_nil ?_
 refine x_then ?_
 refine awp_seq ?_
 refine awp_seq ?_
 refine awp_region ?_
 first | (refine r_fieldpt rfl TF.f47_0 TF.sz44 rfl ?_) | (refine r_fieldcp rfl TF.f47_0 TF.sz44 rfl ?_) | (refine r_fieldb rfl TF.f47_0 TF.sz44 rfl ?_)
 first | (refine r_fieldpt rfl TF.f44_0 TF.sz3 rfl ?_) | (refine r_fieldcp rfl TF.f44_0 TF.sz3 rfl ?_) | (refine r_fieldb rfl TF.f44_0 TF.sz3 rfl ?_)
 first | (refine r_load1b 0 rfl rfl rfl TF.agg3 rfl ?_) | (refine r_load1 rfl TF.agg3 rfl ?_) | (refine r_load1b 1 rfl rfl rfl TF.agg3 rfl ?_)
 first | (refine r_fieldpt rfl TF.f47_0 TF.sz44 rfl ?_) | (refine r_fieldcp rfl TF.f47_0 TF.sz44 rfl ?_) | (refine r_fieldb rfl TF.f47_0 TF.sz44 rfl ?_)
 first | (refine r_fieldpt rfl TF.f44_0 TF.sz3 rfl ?_) | (refine r_fieldcp rfl TF.f44_0 TF.sz3 rfl ?_) | (refine r_fieldb rfl TF.f44_0 TF.sz3 rfl ?_)
 first | (refine r_load1b 0 rfl rfl rfl TF.agg3 rfl ?_) | (refine r_load1 rfl TF.agg3 rfl ?_) | (refine r_load1b 1 rfl rfl rfl TF.agg3 rfl ?_)
 refine r_cmp rfl rfl rfl rfl ?_
 refine awl_nil ?_
 refine x_then ?_
 refine awp_cond rfl (fun hc0 => ?_) (fun hc0 => ?_)
 ·
  have h0 : a.br ≠ b.br := by simpa using hc0
  refine awp_seq ?_
  refine awp_region ?_
  first | (refine r_fieldpt rfl TF.f47_0 TF.sz44 rfl ?_) | (refine r_fieldcp rfl TF.f47_0 TF.sz44 rfl ?_) | (refine r_fieldb rfl TF.f47_0 TF.sz44 rfl ?_)
  first | (refine r_fieldpt rfl TF.f44_0 TF.sz3 rfl ?_) | (refine r_fieldcp rfl TF.f44_0 TF.sz3 rfl ?_) | (refine r_fieldb rfl TF.f44_0 TF.sz3 rfl ?_)
  first | (refine r_load1b 0 rfl rfl rfl TF.agg3 rfl ?_) | (refine r_load1 rfl TF.agg3 rfl ?_) | (refine r_load1b 1 rfl rfl rfl TF.agg3 rfl ?_)
  first | (refine r_fieldpt rfl TF.f47_0 TF.sz44 rfl ?_) | (refine r_fieldcp rfl TF.f47_0 TF.sz44 rfl ?_) | (refine r_fieldb rfl TF.f47_0 TF.sz44 rfl ?_)
  first | (refine r_fieldpt rfl TF.f44_0 TF.sz3 rfl ?_) | (refine r_fieldcp rfl TF.f44_0 TF.sz3 rfl ?_) | (refine r_fieldb rfl TF.f44_0 TF.sz3 rfl ?_)
  first | (refine r_load1b 0 rfl rfl rfl TF.agg3 rfl ?_) | (refine r_load1 rfl TF.agg3 rfl ?_) | (refine r_load1b 1 rfl rfl rfl TF.agg3 rfl ?_)
  refine r_cmp rfl rfl rfl rfl ?_
  refine r_assign rfl rfl ?_
  refine awl_nil ?_
  refine x_then ?_
  refine awp_ret ?_
  refine x_thenR ?_
  exact ⟨(.inl rfl), _, [], (.one (by first | exact .mk rfl rfl | exact .nil rfl)), ⟨rfl, congrArg (fun q => AV.v (Value.bool q)) (decide_eq_decide.2 (by rw [Sp.lt_iff]; omega))⟩, (List.nil_sublist _), (by simp)⟩
 ·
  have h0 : a.br = b.br := by simpa using hc0
  refine awp_skip ?_
  refine x_then ?_
  refine awp_seq ?_
  refine awp_seq ?_
  refine awp_region ?_
  first | (refine r_fieldpt rfl TF.f47_0 TF.sz44 rfl ?_) | (refine r_fieldcp rfl TF.f47_0 TF.sz44 rfl ?_) | (refine r_fieldb rfl TF.f47_0 TF.sz44 rfl ?_)
  first | (refine r_fieldpt rfl TF.f44_1 TF.sz3 rfl ?_) | (refine r_fieldcp rfl TF.f44_1 TF.sz3 rfl ?_) | (refine r_fieldb rfl TF.f44_1 TF.sz3 rfl ?_)
  first | (refine r_load1b 0 rfl rfl rfl TF.agg3 rfl ?_) | (refine r_load1 rfl TF.agg3 rfl ?_) | (refine r_load1b 1 rfl rfl rfl TF.agg3 rfl ?_)
  first | (refine r_fieldpt rfl TF.f47_0 TF.sz44 rfl ?_) | (refine r_fieldcp rfl TF.f47_0 TF.sz44 rfl ?_) | (refine r_fieldb rfl TF.f47_0 TF.sz44 rfl ?_)
  first | (refine r_fieldpt rfl TF.f44_1 TF.sz3 rfl ?_) | (refine r_fieldcp rfl TF.f44_1 TF.sz3 rfl ?_) | (refine r_fieldb rfl TF.f44_1 TF.sz3 rfl ?_)
  first | (refine r_load1b 0 rfl rfl rfl TF.agg3 rfl ?_) | (refine r_load1 rfl TF.agg3 rfl ?_) | (refine r_load1b 1 rfl rfl rfl TF.agg3 rfl ?_)
  refine r_cmp rfl rfl rfl rfl ?_
  refine awl_nil ?_
  refine x_then ?_
  refine awp_cond rfl (fun hc1 => ?_) (fun hc1 => ?_)
  ·
   have h1 : a.vo ≠ b.vo := by simpa using hc1
   refine awp_seq ?_
   refine awp_region ?_
   first | (refine r_fieldpt rfl TF.f47_0 TF.sz44 rfl ?_) | (refine r_fieldcp rfl TF.f47_0 TF.sz44 rfl ?_) | (refine r_fieldb rfl TF.f47_0 TF.sz44 rfl ?_)
   first | (refine r_fieldpt rfl TF.f44_1 TF.sz3 rfl ?_) | (refine r_fieldcp rfl TF.f44_1 TF.sz3 rfl ?_) | (refine r_fieldb rfl TF.f44_1 TF.sz3 rfl ?_)
   first | (refine r_load1b 0 rfl rfl rfl TF.agg3 rfl ?_) | (refine r_load1 rfl TF.agg3 rfl ?_) | (refine r_load1b 1 rfl rfl rfl TF.agg3 rfl ?_)
   first | (refine r_fieldpt rfl TF.f47_0 TF.sz44 rfl ?_) | (refine r_fieldcp rfl TF.f47_0 TF.sz44 rfl ?_) | (refine r_fieldb rfl TF.f47_0 TF.sz44 rfl ?_)
   first | (refine r_fieldpt rfl TF.f44_1 TF.sz3 rfl ?_) | (refine r_fieldcp rfl TF.f44_1 TF.sz3 rfl ?_) | (refine r_fieldb rfl TF.f44_1 TF.sz3 rfl ?_)
   first | (refine r_load1b 0 rfl rfl rfl TF.agg3 rfl ?_) | (refine r_load1 rfl TF.agg3 rfl ?_) | (refine r_load1b 1 rfl rfl rfl TF.agg3 rfl ?_)
   refine r_cmp rfl rfl rfl rfl ?_
   refine r_assign rfl rfl ?_
   refine awl_nil ?_
   refine x_then ?_
   refine awp_ret ?_
   refine x_thenR ?_
   exact ⟨(.inl rfl), _, [], (.one (by first | exact .mk rfl rfl | exact .nil rfl)), ⟨rfl, congrArg (fun q => AV.v (Value.bool q)) (decide_eq_decide.2 (by rw [Sp.lt_iff]; omega))⟩, (List.nil_sublist _), (by simp)⟩
  ·
   have h1 : a.vo = b.vo := by simpa using hc1
   refine awp_skip ?_
   refine x_then ?_
   refine awp_seq ?_
   refine awp_seq ?_
   refine awp_region ?_
   first | (refine r_fieldpt rfl TF.f47_0 TF.sz44 rfl ?_) | (refine r_fieldcp rfl TF.f47_0 TF.sz44 rfl ?_) | (refine r_fieldb rfl TF.f47_0 TF.sz44 rfl ?_)
   first | (refine r_fieldpt rfl TF.f44_2 TF.sz3 rfl ?_) | (refine r_fieldcp rfl TF.f44_2 TF.sz3 rfl ?_) | (refine r_fieldb rfl TF.f44_2 TF.sz3 rfl ?_)
   first | (refine r_load1b 0 rfl rfl rfl TF.agg3 rfl ?_) | (refine r_load1 rfl TF.agg3 rfl ?_) | (refine r_load1b 1 rfl rfl rfl TF.agg3 rfl ?_)
   first | (refine r_fieldpt rfl TF.f47_0 TF.sz44 rfl ?_) | (refine r_fieldcp rfl TF.f47_0 TF.sz44 rfl ?_) | (refine r_fieldb rfl TF.f47_0 TF.sz44 rfl ?_)
   first | (refine r_fieldpt rfl TF.f44_2 TF.sz3 rfl ?_) | (refine r_fieldcp rfl TF.f44_2 TF.sz3 rfl ?_) | (refine r_fieldb rfl TF.f44_2 TF.sz3 rfl ?_)
   first | (refine r_load1b 0 rfl rfl rfl TF.agg3 rfl ?_) | (refine r_load1 rfl TF.agg3 rfl ?_) | (refine r_load1b 1 rfl rfl rfl TF.agg3 rfl ?_)
   refine r_cmp rfl rfl rfl rfl ?_
   refine awl_nil ?_
   refine x_then ?_
   refine awp_cond rfl (fun hc2 => ?_) (fun hc2 => ?_)
   ·
    have h2 : a.bl ≠ b.bl := by simpa using hc2
    refine awp_seq ?_
    refine awp_region ?_
    first | (refine r_fieldpt rfl TF.f47_0 TF.sz44 rfl ?_) | (refine r_fieldcp rfl TF.f47_0 TF.sz44 rfl ?_) | (refine r_fieldb rfl TF.f47_0 TF.sz44 rfl ?_)
    first | (refine r_fieldpt rfl TF.f44_2 TF.sz3 rfl ?_) | (refine r_fieldcp rfl TF.f44_2 TF.sz3 rfl ?_) | (refine r_fieldb rfl TF.f44_2 TF.sz3 rfl ?_)
    first | (refine r_load1b 0 rfl rfl rfl TF.agg3 rfl ?_) | (refine r_load1 rfl TF.agg3 rfl ?_) | (refine r_load1b 1 rfl rfl rfl TF.agg3 rfl ?_)
    first | (refine r_fieldpt rfl TF.f47_0 TF.sz44 rfl ?_) | (refine r_fieldcp rfl TF.f47_0 TF.sz44 rfl ?_) | (refine r_fieldb rfl TF.f47_0 TF.sz44 rfl ?_)
    first | (refine r_fieldpt rfl TF.f44_2 TF.sz3 rfl ?_) | (refine r_fieldcp rfl TF.f44_2 TF.sz3 rfl ?_) | (refine r_fieldb rfl TF.f44_2 TF.sz3 rfl ?_)
    first | (refine r_load1b 0 rfl rfl rfl TF.agg3 rfl ?_) | (refine r_load1 rfl TF.agg3 rfl ?_) | (refine r_load1b 1 rfl rfl rfl TF.agg3 rfl ?_)
    refine r_cmp rfl rfl rfl rfl ?_
    refine r_assign rfl rfl ?_
    refine awl_nil ?_
    refine x_then ?_
    refine awp_ret ?_
    refine x_thenR ?_
    exact ⟨(.inl rfl), _, [], (.one (by first | exact .mk rfl rfl | exact .nil rfl)), ⟨rfl, congrArg (fun q => AV.v (Value.bool q)) (decide_eq_decide.2 (by rw [Sp.lt_iff]; omega))⟩, (List.nil_sublist _), (by simp)⟩
   ·
    have h2 : a.bl = b.bl := by simpa using hc2
    refine awp_skip ?_
    refine x_then ?_
    refine awp_seq ?_
    refine awp_region ?_
    first | (refine r_fieldpt rfl TF.f47_1 TF.sz45 rfl ?_) | (refine r_fieldcp rfl TF.f47_1 TF.sz45 rfl ?_) | (refine r_fieldb rfl TF.f47_1 TF.sz45 rfl ?_)
    first | (refine r_load1b 0 rfl rfl rfl TF.agg45 rfl ?_) | (refine r_load1 rfl TF.agg45 rfl ?_) | (refine r_load1b 1 rfl rfl rfl TF.agg45 rfl ?_)
    first | (refine r_fieldpt rfl TF.f47_1 TF.sz45 rfl ?_) | (refine r_fieldcp rfl TF.f47_1 TF.sz45 rfl ?_) | (refine r_fieldb rfl TF.f47_1 TF.sz45 rfl ?_)
    first | (refine r_load1b 0 rfl rfl rfl TF.agg45 rfl ?_) | (refine r_load1 rfl TF.agg45 rfl ?_) | (refine r_load1b 1 rfl rfl rfl TF.agg45 rfl ?_)
    refine r_cmp rfl rfl rfl rfl ?_
    refine r_assign rfl rfl ?_
    refine awl_nil ?_
    refine x_then ?_
    refine awp_ret ?_
    exact ⟨(.inl rfl), _, [], (.one (by first | exact .mk rfl rfl | exact .nil rfl)), ⟨rfl, congrArg (fun q => AV.v (Value.bool q)) (decide_eq_decide.2 (by rw [Sp.lt_iff]; omega))⟩, (List.nil_sublist _), (by simp)⟩
theorem refDel_ok (l : List It) (hl : l.length ≤ 1000) (k : Sp) : AC Try.prog 32 [.sl 5 (l.map itC), spA k] [] (fun r n => n = [] ∧ r = .sl 5 ((refDel l k).map itC)) := by
 refine ac_of_awp (rs := [4]) (nt := 28) Try.func32 rfl rfl rfl rfl (fun w0 C0 hq => ?_)
 refine awp_seq ?_
 refine awp_region ?_
 refine r_box rfl rfl rfl (fun b3 => ?_)
 refine r_assign rfl rfl ?_
 refine awl_nil ?_
 refine x_then ?_
 refine awp_seq ?_
 refine awp_region ?_
 refine r_assign rfl rfl ?_
 refine awl_nil ?_
 refine x_then ?_
 refine awp_seq ?_
 refine awp_seq ?_
 refine awp_region ?_
 refine r_assign rfl rfl ?_
 refine awl_nil ?_
 refine x_then ?_
 refine awp_block ?_
 refine awp_loop (fun nn0 S => ∃ i : Nat, S = ⟨28, [(0, .a (.sl 5 (l.map itC))), (3, .a (.v (.pointer (some ⟨b3, 0, none⟩)))), (5, .own 5 5 ((refDel (l.take i) k).map itC)), (6, .a (.v (.int .i64 ((i : Int)))))], [⟨b3, true, .box k.cs⟩]⟩ ∧ nn0 = l.length - i ∧ (i ≤ l.length)) (l.length - (0)) ⟨28, [(0, .a (.sl 5 (l.map itC))), (3, .a (.v (.pointer (some ⟨b3, 0, none⟩)))), (5, .own 5 5 ((refDel (l.take (0)) k).map itC)), (6, .a (.v (.int .i64 (((0) : Int)))))], [⟨b3, true, .box k.cs⟩]⟩ ⟨rfl, (Slots.cons rfl (by first | exact .refl _ | exact .nilOwn _ _ | exact .nilSl _ | exact .ownSl _ _ _  | exact SV.le.of_eq (by simp)) (Slots.cons rfl (by first | exact .refl _ | exact .nilOwn _ _ | exact .nilSl _ | exact .ownSl _ _ _  | exact SV.le.of_eq (by simp)) (Slots.cons rfl (by first | exact .refl _ | exact .nilOwn _ _ | exact .nilSl _ | exact .ownSl _ _ _  | exact SV.le.of_eq (by simp)) (Slots.cons rfl (by first | exact .refl _ | exact .nilOwn _ _ | exact .nilSl _ | exact .ownSl _ _ _  | exact SV.le.of_eq (by simp)) Slots.nil)))), (by first | exact List.Sublist.refl _ | exact .cons_cons _ (.cons _ (.refl _)) | exact List.nil_sublist _ | exact .cons _ (.refl _) | exact .cons _ (.cons _ (.refl _)) | exact .cons _ (.cons _ (.cons _ (.refl _))) | exact .cons _ (.cons _ (.cons _ (.cons _ (.refl _)))) | exact .cons_cons _ (List.nil_sublist _))⟩ ⟨0, rfl, rfl, Nat.zero_le _⟩ ?_
 rintro nn0 _ ⟨i, rfl, rfl, hi⟩
 refine awp_seq ?_
 refine awp_seq ?_
 refine awp_region ?_
 refine r_move rfl rfl ?_
 refine r_move rfl rfl ?_
 first | (refine r_lenS rfl rfl TF.sl25 rfl ?_) | (refine r_lenNil rfl TF.sl25 rfl ?_) | (refine r_lenV rfl TF.sl25 rfl ?_)
 refine r_cmp rfl rfl rfl rfl ?_
 refine awl_nil ?_
 refine x_then ?_
 refine awp_cond rfl (fun hc0 => ?_) (fun hc0 => ?_)
 ·
  have hltx : i < l.length := by have := of_decide_eq_true hc0; simpa using this
  obtain ⟨x, hx⟩ := get_lt hltx
  refine awp_skip ?_
  refine x_then ?_
  refine awp_seq ?_
  refine awp_block ?_
  refine awp_seq ?_
  refine awp_drawS [13, 14, 15, 16, 17, 18] [_, _, _, _, _, _] [] [] TF.mixed rfl rfl rfl ⟨⟨⟨⟨⟨⟨trivial
   , ⟨_, rfl, fun sl hd hr ho => by
     refine r_move (hr 0 _ rfl rfl rfl) rfl ?_
     exact awl_nil ⟨rfl, post_put⟩⟩⟩
   , ⟨_, rfl, fun sl hd hr ho => by
     refine r_move (hr 6 _ rfl rfl rfl) rfl ?_
     exact awl_nil ⟨rfl, post_put⟩⟩⟩
   , ⟨_, rfl, fun sl hd hr ho => by
     refine r_index (hd 0 _ rfl rfl rfl) rfl (hd 1 _ rfl rfl rfl) TF.sl25 TF.sz57 (by omega) (get_map hx) rfl ?_
     exact awl_nil ⟨rfl, post_put⟩⟩⟩
   , ⟨_, rfl, fun sl hd hr ho => by
     first | (refine r_fieldpt (hd 2 _ rfl rfl rfl) TF.f57_0 TF.sz47 rfl ?_) | (refine r_fieldcp (hd 2 _ rfl rfl rfl) TF.f57_0 TF.sz47 rfl ?_) | (refine r_fieldb (hd 2 _ rfl rfl rfl) TF.f57_0 TF.sz47 rfl ?_)
     exact awl_nil ⟨rfl, post_put⟩⟩⟩
   , ⟨_, rfl, fun sl hd hr ho => by
     first | (refine r_loadAb 0 (hd 3 _ rfl rfl rfl) rfl TF.agg47 TF.sz47 rfl rfl ?_) | (refine r_loadA (hd 3 _ rfl rfl rfl) TF.agg47 TF.sz47 rfl rfl ?_)
     exact awl_nil ⟨rfl, post_put⟩⟩⟩
   , ⟨_, rfl, fun sl hd hr ho => by
     first | (refine r_loadAb 0 (hr 3 _ rfl rfl rfl) rfl TF.agg47 TF.sz47 rfl rfl ?_) | (refine r_loadA (hr 3 _ rfl rfl rfl) TF.agg47 TF.sz47 rfl rfl ?_)
     exact awl_nil ⟨rfl, post_put⟩⟩⟩
   (by rfl) ?_
  refine r_fne rfl rfl flat47 (isVal_sp x.1) (isVal_sp k) (Sp.kn _) (Sp.kn _) (decide (x.1 = k)) (by rw [decide_eq_true_eq]; exact ⟨fun h => by rw [h], Sp.vs_inj⟩) rfl ?_
  refine awl_nil ?_
  refine x_then ?_
  refine awp_cond rfl (fun hc1 => ?_) (fun hc1 => ?_)
  ·
   have hif : (if x.1 = k then ([] : List It) else [x]) = [x] := if_neg (by have := hc1; simp at this; exact this)
   have hdl : (refDel (l.take i) k).length ≤ 1000 := Nat.le_trans (List.length_filter_le _ _) (by rw [List.length_take]; omega)
   refine awp_region ?_
   refine r_move rfl rfl ?_
   refine r_move rfl rfl ?_
   refine r_move rfl rfl ?_
   refine r_index rfl rfl rfl TF.sl25 TF.sz57 (by omega) (get_map hx) rfl ?_
   first | (refine r_loadAb 0 rfl rfl TF.agg57 TF.sz57 rfl rfl ?_) | (refine r_loadA rfl TF.agg57 TF.sz57 rfl rfl ?_)
   refine r_lit 25 (parts := [(0, .tmp 24)]) rfl TF.sl25 TF.sz57 TF.zraw57 rfl rfl rfl rfl rfl rfl rfl ?_
   refine r_append 5 rfl (by first | exact .own _ | exact .nil) rfl (by first | exact .sl _ | exact .own _ _ | exact .nil) TF.sl25 TF.sz57 (by decide) TF.by57 TF.zlen57 (by simp [chunks]; omega) (by simp [chunks]; omega) rfl ?_
   refine r_assign rfl rfl ?_
   refine awl_nil ?_
   refine x_block ?_
   refine x_then ?_
   refine awp_region ?_
   refine r_move rfl rfl ?_
   refine r_ari _ rfl rfl rfl (wrap_id (by first | omega | (simp; omega))) rfl ?_
   refine r_assign rfl rfl ?_
   refine awl_nil ?_
   refine x_then ?_
   refine ⟨l.length - (i + 1), ⟨28, [(0, .a (.sl 5 (l.map itC))), (3, .a (.v (.pointer (some ⟨b3, 0, none⟩)))), (5, .own 5 5 ((refDel (l.take (i + 1)) k).map itC)), (6, .a (.v (.int .i64 (((i + 1) : Int)))))], [⟨b3, true, .box k.cs⟩]⟩, ⟨rfl, (Slots.cons rfl (by first | exact .refl _ | exact .nilOwn _ _ | exact .nilSl _ | exact .ownSl _ _ _  | exact SV.le.ownEq (by rw [refDel_snoc hx, hif]; simp; try rfl) | exact SV.le.of_eq (by rw [refDel_snoc hx, hif]; simp; try rfl)) (Slots.cons rfl (by first | exact .refl _ | exact .nilOwn _ _ | exact .nilSl _ | exact .ownSl _ _ _  | exact SV.le.ownEq (by rw [refDel_snoc hx, hif]; simp; try rfl) | exact SV.le.of_eq (by rw [refDel_snoc hx, hif]; simp; try rfl)) (Slots.cons rfl (by first | exact .refl _ | exact .nilOwn _ _ | exact .nilSl _ | exact .ownSl _ _ _  | exact SV.le.ownEq (by rw [refDel_snoc hx, hif]; simp; try rfl) | exact SV.le.of_eq (by rw [refDel_snoc hx, hif]; simp; try rfl)) (Slots.cons rfl (by first | exact .refl _ | exact .nilOwn _ _ | exact .nilSl _ | exact .ownSl _ _ _  | exact SV.le.ownEq (by rw [refDel_snoc hx, hif]; simp; try rfl) | exact SV.le.of_eq (by rw [refDel_snoc hx, hif]; simp; try rfl)) Slots.nil)))), (by first | exact List.Sublist.refl _ | exact .cons_cons _ (.cons _ (.refl _)) | exact List.nil_sublist _ | exact .cons _ (.refl _) | exact .cons _ (.cons _ (.refl _)) | exact .cons _ (.cons _ (.cons _ (.refl _))) | exact .cons _ (.cons _ (.cons _ (.cons _ (.refl _)))) | exact .cons_cons _ (List.nil_sublist _))⟩, (by omega), ⟨i + 1, rfl, rfl, (by omega)⟩⟩
  ·
   have hif : (if x.1 = k then ([] : List It) else [x]) = [] := if_pos (by have := hc1; simp at this; exact this)
   refine awp_skip ?_
   refine x_block ?_
   refine x_then ?_
   refine awp_region ?_
   refine r_move rfl rfl ?_
   refine r_ari _ rfl rfl rfl (wrap_id (by first | omega | (simp; omega))) rfl ?_
   refine r_assign rfl rfl ?_
   refine awl_nil ?_
   refine x_then ?_
   refine ⟨l.length - (i + 1), ⟨28, [(0, .a (.sl 5 (l.map itC))), (3, .a (.v (.pointer (some ⟨b3, 0, none⟩)))), (5, .own 5 5 ((refDel (l.take (i + 1)) k).map itC)), (6, .a (.v (.int .i64 (((i + 1) : Int)))))], [⟨b3, true, .box k.cs⟩]⟩, ⟨rfl, (Slots.cons rfl (by first | exact .refl _ | exact .nilOwn _ _ | exact .nilSl _ | exact .ownSl _ _ _  | exact SV.le.ownEq (by rw [refDel_snoc hx, hif]; simp; try rfl) | exact SV.le.of_eq (by rw [refDel_snoc hx, hif]; simp; try rfl)) (Slots.cons rfl (by first | exact .refl _ | exact .nilOwn _ _ | exact .nilSl _ | exact .ownSl _ _ _  | exact SV.le.ownEq (by rw [refDel_snoc hx, hif]; simp; try rfl) | exact SV.le.of_eq (by rw [refDel_snoc hx, hif]; simp; try rfl)) (Slots.cons rfl (by first | exact .refl _ | exact .nilOwn _ _ | exact .nilSl _ | exact .ownSl _ _ _  | exact SV.le.ownEq (by rw [refDel_snoc hx, hif]; simp; try rfl) | exact SV.le.of_eq (by rw [refDel_snoc hx, hif]; simp; try rfl)) (Slots.cons rfl (by first | exact .refl _ | exact .nilOwn _ _ | exact .nilSl _ | exact .ownSl _ _ _  | exact SV.le.ownEq (by rw [refDel_snoc hx, hif]; simp; try rfl) | exact SV.le.of_eq (by rw [refDel_snoc hx, hif]; simp; try rfl)) Slots.nil)))), (by first | exact List.Sublist.refl _ | exact .cons_cons _ (.cons _ (.refl _)) | exact List.nil_sublist _ | exact .cons _ (.refl _) | exact .cons _ (.cons _ (.refl _)) | exact .cons _ (.cons _ (.cons _ (.refl _))) | exact .cons _ (.cons _ (.cons _ (.cons _ (.refl _)))) | exact .cons_cons _ (List.nil_sublist _))⟩, (by omega), ⟨i + 1, rfl, rfl, (by omega)⟩⟩
 ·
  have hge : l.length ≤ i := by have := of_decide_eq_false hc0; simp at this; omega
  obtain rfl : i = l.length := by omega
  rw [List.take_length]
  refine awp_exit ?_
  refine x_thenE ?_
  refine x_thenE ?_
  refine x_blockE ?_
  refine x_then ?_
  refine awp_seq ?_
  refine awp_region ?_
  refine r_move rfl rfl ?_
  refine r_assign rfl rfl ?_
  refine awl_nil ?_
  refine x_then ?_
  refine awp_ret ?_
  exact ⟨(.inl rfl), _, [], (.one (by first | exact .mk rfl rfl | exact .nil rfl)), ⟨rfl, rfl⟩, (List.nil_sublist _), (by simp)⟩
theorem refPut_ok (l : List It) (hl : l.length ≤ 1000) (k : Sp) (v : Int) : AC Try.prog 33 [.sl 5 (l.map itC), spA k, .v (.int .u64 (v))] [] (fun r n => n = [] ∧ r = .sl 5 ((refPut l k v).map itC)) := by
 refine ac_of_awp (rs := [6]) (nt := 62) Try.func33 rfl rfl rfl rfl (fun w0 C0 hq => ?_)
 refine awp_seq ?_
 refine awp_region ?_
 refine r_box rfl rfl rfl (fun b4 => ?_)
 refine r_assign rfl rfl ?_
 refine awl_nil ?_
 refine x_then ?_
 refine awp_seq ?_
 refine awp_region ?_
 refine r_assign rfl rfl ?_
 refine awl_nil ?_
 refine x_then ?_
 refine awp_seq ?_
 refine awp_region ?_
 refine r_assign rfl rfl ?_
 refine awl_nil ?_
 refine x_then ?_
 refine awp_seq ?_
 refine awp_seq ?_
 refine awp_region ?_
 refine r_assign rfl rfl ?_
 refine awl_nil ?_
 refine x_then ?_
 refine awp_block ?_
 refine awp_loop (fun nn0 S => ∃ i : Nat, ∃ d : Bool, ∃ o : List It, S = ⟨62, [(0, .a (.sl 5 (l.map itC))), (2, .a (.v (.int .u64 (v)))), (4, .a (.v (.pointer (some ⟨b4, 0, none⟩)))), (7, .own 7 5 (o.map itC)), (8, .a (.v (.bool d))), (9, .a (.v (.int .i64 ((i : Int)))))], [⟨b4, true, .box k.cs⟩]⟩ ∧ nn0 = l.length - i ∧ (i ≤ l.length) ∧ (o ++ refPutGo k v d (l.drop i) = refPut l k v)) (l.length - (0)) ⟨62, [(0, .a (.sl 5 (l.map itC))), (2, .a (.v (.int .u64 (v)))), (4, .a (.v (.pointer (some ⟨b4, 0, none⟩)))), (7, .own 7 5 (([]).map itC)), (8, .a (.v (.bool (false)))), (9, .a (.v (.int .i64 (((0) : Int)))))], [⟨b4, true, .box k.cs⟩]⟩ ⟨rfl, (Slots.cons rfl (by first | exact .refl _ | exact .nilOwn _ _ | exact .nilSl _ | exact .ownSl _ _ _  | exact SV.le.of_eq (by simp)) (Slots.cons rfl (by first | exact .refl _ | exact .nilOwn _ _ | exact .nilSl _ | exact .ownSl _ _ _  | exact SV.le.of_eq (by simp)) (Slots.cons rfl (by first | exact .refl _ | exact .nilOwn _ _ | exact .nilSl _ | exact .ownSl _ _ _  | exact SV.le.of_eq (by simp)) (Slots.cons rfl (by first | exact .refl _ | exact .nilOwn _ _ | exact .nilSl _ | exact .ownSl _ _ _  | exact SV.le.of_eq (by simp)) (Slots.cons rfl (by first | exact .refl _ | exact .nilOwn _ _ | exact .nilSl _ | exact .ownSl _ _ _  | exact SV.le.of_eq (by simp)) (Slots.cons rfl (by first | exact .refl _ | exact .nilOwn _ _ | exact .nilSl _ | exact .ownSl _ _ _  | exact SV.le.of_eq (by simp)) Slots.nil)))))), (by first | exact List.Sublist.refl _ | exact .cons_cons _ (.cons _ (.refl _)) | exact List.nil_sublist _ | exact .cons _ (.refl _) | exact .cons _ (.cons _ (.refl _)) | exact .cons _ (.cons _ (.cons _ (.refl _))) | exact .cons _ (.cons _ (.cons _ (.cons _ (.refl _)))) | exact .cons_cons _ (List.nil_sublist _))⟩ ⟨0, false, [], rfl, rfl, Nat.zero_le _, rfl⟩ ?_
 rintro nn0 _ ⟨i, d, o, rfl, rfl, hi, hgo⟩
 refine awp_seq ?_
 refine awp_seq ?_
 refine awp_region ?_
 refine r_move rfl rfl ?_
 refine r_move rfl rfl ?_
 first | (refine r_lenS rfl rfl TF.sl25 rfl ?_) | (refine r_lenNil rfl TF.sl25 rfl ?_) | (refine r_lenV rfl TF.sl25 rfl ?_)
 refine r_cmp rfl rfl rfl rfl ?_
 refine awl_nil ?_
 refine x_then ?_
 refine awp_cond rfl (fun hc0 => ?_) (fun hc0 => ?_)
 ·
  have hltx : i < l.length := by have := of_decide_eq_true hc0; simpa using this
  obtain ⟨x, hx⟩ := get_lt hltx
  have hol : o.length ≤ 2001 := by have h1 := congrArg List.length hgo; have h2 := refPut_len l k v; rw [List.length_append] at h1; omega
  refine awp_skip ?_
  refine x_then ?_
  refine awp_seq ?_
  refine awp_block ?_
  refine awp_seq ?_
  refine awp_seq ?_
  refine awp_drawS [16, 17, 18, 19, 20, 21] [_, _, _, _, _, _] [] [] TF.mixed rfl rfl rfl ⟨⟨⟨⟨⟨⟨trivial
   , ⟨_, rfl, fun sl hd hr ho => by
     refine r_move (hr 0 _ rfl rfl rfl) rfl ?_
     exact awl_nil ⟨rfl, post_put⟩⟩⟩
   , ⟨_, rfl, fun sl hd hr ho => by
     refine r_move (hr 9 _ rfl rfl rfl) rfl ?_
     exact awl_nil ⟨rfl, post_put⟩⟩⟩
   , ⟨_, rfl, fun sl hd hr ho => by
     refine r_index (hd 0 _ rfl rfl rfl) rfl (hd 1 _ rfl rfl rfl) TF.sl25 TF.sz57 (by omega) (get_map hx) rfl ?_
     exact awl_nil ⟨rfl, post_put⟩⟩⟩
   , ⟨_, rfl, fun sl hd hr ho => by
     first | (refine r_fieldpt (hd 2 _ rfl rfl rfl) TF.f57_0 TF.sz47 rfl ?_) | (refine r_fieldcp (hd 2 _ rfl rfl rfl) TF.f57_0 TF.sz47 rfl ?_) | (refine r_fieldb (hd 2 _ rfl rfl rfl) TF.f57_0 TF.sz47 rfl ?_)
     exact awl_nil ⟨rfl, post_put⟩⟩⟩
   , ⟨_, rfl, fun sl hd hr ho => by
     first | (refine r_loadAb 0 (hd 3 _ rfl rfl rfl) rfl TF.agg47 TF.sz47 rfl rfl ?_) | (refine r_loadA (hd 3 _ rfl rfl rfl) TF.agg47 TF.sz47 rfl rfl ?_)
     exact awl_nil ⟨rfl, post_put⟩⟩⟩
   , ⟨_, rfl, fun sl hd hr ho => by
     first | (refine r_loadAb 0 (hr 4 _ rfl rfl rfl) rfl TF.agg47 TF.sz47 rfl rfl ?_) | (refine r_loadA (hr 4 _ rfl rfl rfl) TF.agg47 TF.sz47 rfl rfl ?_)
     exact awl_nil ⟨rfl, post_put⟩⟩⟩
   (by rfl) ?_
  refine r_feq rfl rfl flat47 (isVal_sp x.1) (isVal_sp k) (Sp.kn _) (Sp.kn _) (decide (x.1 = k)) (by rw [decide_eq_true_eq]; exact ⟨fun h => by rw [h], Sp.vs_inj⟩) rfl ?_
  refine awl_nil ?_
  refine x_then ?_
  refine awp_cond rfl (fun hc1 => ?_) (fun hc1 => ?_)
  ·
   have he : x.1 = k := of_decide_eq_true hc1
   refine awp_seq ?_
   refine awp_region ?_
   refine r_move rfl rfl ?_
   first | (refine r_loadAb 0 rfl rfl TF.agg47 TF.sz47 rfl rfl ?_) | (refine r_loadA rfl TF.agg47 TF.sz47 rfl rfl ?_)
   refine r_move rfl rfl ?_
   refine r_build (parts := [(0, .tmp 24), (1, .tmp 25)]) rfl TF.pl57 TF.zero57 rfl rfl rfl ?_
   refine r_lit 27 (parts := [(0, .tmp 26)]) rfl TF.sl25 TF.sz57 TF.zraw57 rfl rfl rfl rfl rfl rfl rfl ?_
   refine r_append 7 rfl (by first | exact .own _ | exact .nil) rfl (by first | exact .sl _ | exact .own _ _ | exact .nil) TF.sl25 TF.sz57 (by decide) TF.by57 TF.zlen57 (by simp [chunks]; omega) (by simp [chunks]; omega) rfl ?_
   refine r_assign rfl rfl ?_
   refine awl_nil ?_
   refine x_then ?_
   refine awp_seq ?_
   refine awp_region ?_
   refine r_assign rfl rfl ?_
   refine awl_nil ?_
   refine x_then ?_
   refine awp_exit ?_
   refine x_thenE ?_
   refine x_blockE ?_
   refine x_then ?_
   refine awp_region ?_
   refine r_move rfl rfl ?_
   refine r_ari _ rfl rfl rfl (wrap_id (by first | omega | (simp; omega))) rfl ?_
   refine r_assign rfl rfl ?_
   refine awl_nil ?_
   refine x_then ?_
   refine ⟨l.length - (i + 1), ⟨62, [(0, .a (.sl 5 (l.map itC))), (2, .a (.v (.int .u64 (v)))), (4, .a (.v (.pointer (some ⟨b4, 0, none⟩)))), (7, .own 7 5 ((o ++ [(k, v)]).map itC)), (8, .a (.v (.bool (true)))), (9, .a (.v (.int .i64 (((i + 1) : Int)))))], [⟨b4, true, .box k.cs⟩]⟩, ⟨rfl, (Slots.cons rfl (by first | exact .refl _ | exact .nilOwn _ _ | exact .nilSl _ | exact .ownSl _ _ _  | exact SV.le.ownEq (by first | rfl | (simp; done) | (simp; rfl)) | exact SV.le.of_eq (by first | rfl | (simp; done) | (simp; rfl))) (Slots.cons rfl (by first | exact .refl _ | exact .nilOwn _ _ | exact .nilSl _ | exact .ownSl _ _ _  | exact SV.le.ownEq (by first | rfl | (simp; done) | (simp; rfl)) | exact SV.le.of_eq (by first | rfl | (simp; done) | (simp; rfl))) (Slots.cons rfl (by first | exact .refl _ | exact .nilOwn _ _ | exact .nilSl _ | exact .ownSl _ _ _  | exact SV.le.ownEq (by first | rfl | (simp; done) | (simp; rfl)) | exact SV.le.of_eq (by first | rfl | (simp; done) | (simp; rfl))) (Slots.cons rfl (by first | exact .refl _ | exact .nilOwn _ _ | exact .nilSl _ | exact .ownSl _ _ _  | exact SV.le.ownEq (by first | rfl | (simp; done) | (simp; rfl)) | exact SV.le.of_eq (by first | rfl | (simp; done) | (simp; rfl))) (Slots.cons rfl (by first | exact .refl _ | exact .nilOwn _ _ | exact .nilSl _ | exact .ownSl _ _ _  | exact SV.le.ownEq (by first | rfl | (simp; done) | (simp; rfl)) | exact SV.le.of_eq (by first | rfl | (simp; done) | (simp; rfl))) (Slots.cons rfl (by first | exact .refl _ | exact .nilOwn _ _ | exact .nilSl _ | exact .ownSl _ _ _  | exact SV.le.ownEq (by first | rfl | (simp; done) | (simp; rfl)) | exact SV.le.of_eq (by first | rfl | (simp; done) | (simp; rfl))) Slots.nil)))))), (by first | exact List.Sublist.refl _ | exact .cons_cons _ (.cons _ (.refl _)) | exact List.nil_sublist _ | exact .cons _ (.refl _) | exact .cons _ (.cons _ (.refl _)) | exact .cons _ (.cons _ (.cons _ (.refl _))) | exact .cons _ (.cons _ (.cons _ (.cons _ (.refl _)))) | exact .cons_cons _ (List.nil_sublist _))⟩, (by omega), ⟨i + 1, true, o ++ [(k, v)], rfl, rfl, (by omega), (by rw [← hgo, drop_get hx, go_eq he]; simp)⟩⟩
  ·
   have hne : ¬ x.1 = k := of_decide_eq_false hc1
   refine awp_skip ?_
   refine x_then ?_
   refine awp_seq ?_
   refine awp_seq ?_
   rcases Bool.eq_false_or_eq_true ((!d)) with hg31 | hg31
   ·
    obtain rfl : d = false := by simpa using hg31
    refine awp_drawS [29, 30, 31, 32, 33, 34, 35, 36, 37] [_, _, _, _, _, _, _, _, _] [] [] TF.mixed rfl rfl rfl ⟨⟨⟨⟨⟨⟨⟨⟨⟨trivial
     , ⟨_, rfl, fun sl hd hr ho => by
       refine r_move (hr 8 _ rfl rfl rfl) rfl ?_
       exact awl_nil ⟨rfl, post_put⟩⟩⟩
     , ⟨_, rfl, fun sl hd hr ho => by
       refine r_not (hd 0 _ rfl rfl rfl) rfl ?_
       exact awl_nil ⟨rfl, post_put⟩⟩⟩
     , ⟨_, rfl, fun sl hd hr ho => by
       refine r_move (hd 1 _ rfl rfl rfl) rfl ?_
       exact awl_nil ⟨rfl, post_put⟩⟩⟩
     , ⟨_, rfl, fun sl hd hr ho => by
       refine g_run rfl (hd 2 _ rfl rfl rfl) hg31 ?_
       first | (refine r_loadAb 0 (hr 4 _ rfl rfl rfl) rfl TF.agg47 TF.sz47 rfl rfl ?_) | (refine r_loadA (hr 4 _ rfl rfl rfl) TF.agg47 TF.sz47 rfl rfl ?_)
       exact awl_nil ⟨rfl, post_put⟩⟩⟩
     , ⟨_, rfl, fun sl hd hr ho => by
       refine g_run rfl (hd 2 _ rfl rfl rfl) hg31 ?_
       refine r_move (hr 0 _ rfl rfl rfl) rfl ?_
       exact awl_nil ⟨rfl, post_put⟩⟩⟩
     , ⟨_, rfl, fun sl hd hr ho => by
       refine g_run rfl (hd 2 _ rfl rfl rfl) hg31 ?_
       refine r_move (hr 9 _ rfl rfl rfl) rfl ?_
       exact awl_nil ⟨rfl, post_put⟩⟩⟩
     , ⟨_, rfl, fun sl hd hr ho => by
       refine g_run rfl (hd 2 _ rfl rfl rfl) hg31 ?_
       refine r_index (hd 4 _ rfl rfl rfl) rfl (hd 5 _ rfl rfl rfl) TF.sl25 TF.sz57 (by omega) (get_map hx) rfl ?_
       exact awl_nil ⟨rfl, post_put⟩⟩⟩
     , ⟨_, rfl, fun sl hd hr ho => by
       refine g_run rfl (hd 2 _ rfl rfl rfl) hg31 ?_
       first | (refine r_fieldpt (hd 6 _ rfl rfl rfl) TF.f57_0 TF.sz47 rfl ?_) | (refine r_fieldcp (hd 6 _ rfl rfl rfl) TF.f57_0 TF.sz47 rfl ?_) | (refine r_fieldb (hd 6 _ rfl rfl rfl) TF.f57_0 TF.sz47 rfl ?_)
       exact awl_nil ⟨rfl, post_put⟩⟩⟩
     , ⟨_, rfl, fun sl hd hr ho => by
       refine g_run rfl (hd 2 _ rfl rfl rfl) hg31 ?_
       first | (refine r_loadAb 0 (hd 7 _ rfl rfl rfl) rfl TF.agg47 TF.sz47 rfl rfl ?_) | (refine r_loadA (hd 7 _ rfl rfl rfl) TF.agg47 TF.sz47 rfl rfl ?_)
       exact awl_nil ⟨rfl, post_put⟩⟩⟩
     (by rfl) ?_
    refine g_run rfl rfl hg31 ?_
    refine r_call0 hq rfl rfl (.cons (.ev rfl rfl) (.cons (.ev rfl rfl) .nil)) (before34 k x.1) rfl TF.en34 rfl (fun r hr => ?_)
    obtain rfl := hr
    refine r_pickT rfl hg31 rfl rfl ?_
    refine awl_nil ?_
    refine x_then ?_
    refine awp_cond rfl (fun hc2 => ?_) (fun hc2 => ?_)
    ·
     have hlx : k.lt x.1 := of_decide_eq_true hc2
     refine awp_seq ?_
     refine awp_region ?_
     refine r_move rfl rfl ?_
     first | (refine r_loadAb 0 rfl rfl TF.agg47 TF.sz47 rfl rfl ?_) | (refine r_loadA rfl TF.agg47 TF.sz47 rfl rfl ?_)
     refine r_move rfl rfl ?_
     refine r_build (parts := [(0, .tmp 41), (1, .tmp 42)]) rfl TF.pl57 TF.zero57 rfl rfl rfl ?_
     refine r_lit 44 (parts := [(0, .tmp 43)]) rfl TF.sl25 TF.sz57 TF.zraw57 rfl rfl rfl rfl rfl rfl rfl ?_
     refine r_append 7 rfl (by first | exact .own _ | exact .nil) rfl (by first | exact .sl _ | exact .own _ _ | exact .nil) TF.sl25 TF.sz57 (by decide) TF.by57 TF.zlen57 (by simp [chunks]; omega) (by simp [chunks]; omega) rfl ?_
     refine r_assign rfl rfl ?_
     refine awl_nil ?_
     refine x_then ?_
     refine awp_region ?_
     refine r_assign rfl rfl ?_
     refine awl_nil ?_
     refine x_then ?_
     refine awp_region ?_
     refine r_move rfl rfl ?_
     refine r_move rfl rfl ?_
     refine r_move rfl rfl ?_
     refine r_index rfl rfl rfl TF.sl25 TF.sz57 (by omega) (get_map hx) rfl ?_
     first | (refine r_loadAb 0 rfl rfl TF.agg57 TF.sz57 rfl rfl ?_) | (refine r_loadA rfl TF.agg57 TF.sz57 rfl rfl ?_)
     refine r_lit 51 (parts := [(0, .tmp 50)]) rfl TF.sl25 TF.sz57 TF.zraw57 rfl rfl rfl rfl rfl rfl rfl ?_
     refine r_append 7 rfl (by first | exact .own _ | exact .nil) rfl (by first | exact .sl _ | exact .own _ _ | exact .nil) TF.sl25 TF.sz57 (by decide) TF.by57 TF.zlen57 (by simp [chunks]; omega) (by simp [chunks]; omega) rfl ?_
     refine r_assign rfl rfl ?_
     refine awl_nil ?_
     refine x_block ?_
     refine x_then ?_
     refine awp_region ?_
     refine r_move rfl rfl ?_
     refine r_ari _ rfl rfl rfl (wrap_id (by first | omega | (simp; omega))) rfl ?_
     refine r_assign rfl rfl ?_
     refine awl_nil ?_
     refine x_then ?_
     refine ⟨l.length - (i + 1), ⟨62, [(0, .a (.sl 5 (l.map itC))), (2, .a (.v (.int .u64 (v)))), (4, .a (.v (.pointer (some ⟨b4, 0, none⟩)))), (7, .own 7 5 ((o ++ [(k, v)] ++ [x]).map itC)), (8, .a (.v (.bool (true)))), (9, .a (.v (.int .i64 (((i + 1) : Int)))))], [⟨b4, true, .box k.cs⟩]⟩, ⟨rfl, (Slots.cons rfl (by first | exact .refl _ | exact .nilOwn _ _ | exact .nilSl _ | exact .ownSl _ _ _  | exact SV.le.ownEq (by first | rfl | (simp; done) | (simp; rfl)) | exact SV.le.of_eq (by first | rfl | (simp; done) | (simp; rfl))) (Slots.cons rfl (by first | exact .refl _ | exact .nilOwn _ _ | exact .nilSl _ | exact .ownSl _ _ _  | exact SV.le.ownEq (by first | rfl | (simp; done) | (simp; rfl)) | exact SV.le.of_eq (by first | rfl | (simp; done) | (simp; rfl))) (Slots.cons rfl (by first | exact .refl _ | exact .nilOwn _ _ | exact .nilSl _ | exact .ownSl _ _ _  | exact SV.le.ownEq (by first | rfl | (simp; done) | (simp; rfl)) | exact SV.le.of_eq (by first | rfl | (simp; done) | (simp; rfl))) (Slots.cons rfl (by first | exact .refl _ | exact .nilOwn _ _ | exact .nilSl _ | exact .ownSl _ _ _  | exact SV.le.ownEq (by first | rfl | (simp; done) | (simp; rfl)) | exact SV.le.of_eq (by first | rfl | (simp; done) | (simp; rfl))) (Slots.cons rfl (by first | exact .refl _ | exact .nilOwn _ _ | exact .nilSl _ | exact .ownSl _ _ _  | exact SV.le.ownEq (by first | rfl | (simp; done) | (simp; rfl)) | exact SV.le.of_eq (by first | rfl | (simp; done) | (simp; rfl))) (Slots.cons rfl (by first | exact .refl _ | exact .nilOwn _ _ | exact .nilSl _ | exact .ownSl _ _ _  | exact SV.le.ownEq (by first | rfl | (simp; done) | (simp; rfl)) | exact SV.le.of_eq (by first | rfl | (simp; done) | (simp; rfl))) Slots.nil)))))), (by first | exact List.Sublist.refl _ | exact .cons_cons _ (.cons _ (.refl _)) | exact List.nil_sublist _ | exact .cons _ (.refl _) | exact .cons _ (.cons _ (.refl _)) | exact .cons _ (.cons _ (.cons _ (.refl _))) | exact .cons _ (.cons _ (.cons _ (.cons _ (.refl _)))) | exact .cons_cons _ (List.nil_sublist _))⟩, (by omega), ⟨i + 1, true, o ++ [(k, v)] ++ [x], rfl, rfl, (by omega), (by rw [← hgo, drop_get hx, go_lt hne hlx]; simp)⟩⟩
    ·
     have hnl : ¬ ((false : Bool) = false ∧ k.lt x.1) := fun h => of_decide_eq_false hc2 h.2
     refine awp_skip ?_
     refine x_then ?_
     refine awp_region ?_
     refine r_move rfl rfl ?_
     refine r_move rfl rfl ?_
     refine r_move rfl rfl ?_
     refine r_index rfl rfl rfl TF.sl25 TF.sz57 (by omega) (get_map hx) rfl ?_
     first | (refine r_loadAb 0 rfl rfl TF.agg57 TF.sz57 rfl rfl ?_) | (refine r_loadA rfl TF.agg57 TF.sz57 rfl rfl ?_)
     refine r_lit 51 (parts := [(0, .tmp 50)]) rfl TF.sl25 TF.sz57 TF.zraw57 rfl rfl rfl rfl rfl rfl rfl ?_
     refine r_append 7 rfl (by first | exact .own _ | exact .nil) rfl (by first | exact .sl _ | exact .own _ _ | exact .nil) TF.sl25 TF.sz57 (by decide) TF.by57 TF.zlen57 (by simp [chunks]; omega) (by simp [chunks]; omega) rfl ?_
     refine r_assign rfl rfl ?_
     refine awl_nil ?_
     refine x_block ?_
     refine x_then ?_
     refine awp_region ?_
     refine r_move rfl rfl ?_
     refine r_ari _ rfl rfl rfl (wrap_id (by first | omega | (simp; omega))) rfl ?_
     refine r_assign rfl rfl ?_
     refine awl_nil ?_
     refine x_then ?_
     refine ⟨l.length - (i + 1), ⟨62, [(0, .a (.sl 5 (l.map itC))), (2, .a (.v (.int .u64 (v)))), (4, .a (.v (.pointer (some ⟨b4, 0, none⟩)))), (7, .own 7 5 ((o ++ [x]).map itC)), (8, .a (.v (.bool (false)))), (9, .a (.v (.int .i64 (((i + 1) : Int)))))], [⟨b4, true, .box k.cs⟩]⟩, ⟨rfl, (Slots.cons rfl (by first | exact .refl _ | exact .nilOwn _ _ | exact .nilSl _ | exact .ownSl _ _ _  | exact SV.le.ownEq (by first | rfl | (simp; done) | (simp; rfl)) | exact SV.le.of_eq (by first | rfl | (simp; done) | (simp; rfl))) (Slots.cons rfl (by first | exact .refl _ | exact .nilOwn _ _ | exact .nilSl _ | exact .ownSl _ _ _  | exact SV.le.ownEq (by first | rfl | (simp; done) | (simp; rfl)) | exact SV.le.of_eq (by first | rfl | (simp; done) | (simp; rfl))) (Slots.cons rfl (by first | exact .refl _ | exact .nilOwn _ _ | exact .nilSl _ | exact .ownSl _ _ _  | exact SV.le.ownEq (by first | rfl | (simp; done) | (simp; rfl)) | exact SV.le.of_eq (by first | rfl | (simp; done) | (simp; rfl))) (Slots.cons rfl (by first | exact .refl _ | exact .nilOwn _ _ | exact .nilSl _ | exact .ownSl _ _ _  | exact SV.le.ownEq (by first | rfl | (simp; done) | (simp; rfl)) | exact SV.le.of_eq (by first | rfl | (simp; done) | (simp; rfl))) (Slots.cons rfl (by first | exact .refl _ | exact .nilOwn _ _ | exact .nilSl _ | exact .ownSl _ _ _  | exact SV.le.ownEq (by first | rfl | (simp; done) | (simp; rfl)) | exact SV.le.of_eq (by first | rfl | (simp; done) | (simp; rfl))) (Slots.cons rfl (by first | exact .refl _ | exact .nilOwn _ _ | exact .nilSl _ | exact .ownSl _ _ _  | exact SV.le.ownEq (by first | rfl | (simp; done) | (simp; rfl)) | exact SV.le.of_eq (by first | rfl | (simp; done) | (simp; rfl))) Slots.nil)))))), (by first | exact List.Sublist.refl _ | exact .cons_cons _ (.cons _ (.refl _)) | exact List.nil_sublist _ | exact .cons _ (.refl _) | exact .cons _ (.cons _ (.refl _)) | exact .cons _ (.cons _ (.cons _ (.refl _))) | exact .cons _ (.cons _ (.cons _ (.cons _ (.refl _)))) | exact .cons_cons _ (List.nil_sublist _))⟩, (by omega), ⟨i + 1, false, o ++ [x], rfl, rfl, (by omega), (by rw [← hgo, drop_get hx, go_else hne hnl]; simp)⟩⟩
   ·
    obtain rfl : d = true := by simpa using hg31
    have hnl : ¬ ((true : Bool) = false ∧ k.lt x.1) := fun h => by cases h.1
    refine awp_drawS [29, 30, 31, 32, 33, 34, 35, 36, 37] [_, _, _, _, _, _, _, _, _] [] [] TF.mixed rfl rfl rfl ⟨⟨⟨⟨⟨⟨⟨⟨⟨trivial
     , ⟨_, rfl, fun sl hd hr ho => by
       refine r_move (hr 8 _ rfl rfl rfl) rfl ?_
       exact awl_nil ⟨rfl, post_put⟩⟩⟩
     , ⟨_, rfl, fun sl hd hr ho => by
       refine r_not (hd 0 _ rfl rfl rfl) rfl ?_
       exact awl_nil ⟨rfl, post_put⟩⟩⟩
     , ⟨_, rfl, fun sl hd hr ho => by
       refine r_move (hd 1 _ rfl rfl rfl) rfl ?_
       exact awl_nil ⟨rfl, post_put⟩⟩⟩
     , ⟨_, rfl, fun sl hd hr ho => by
       refine g_skip rfl (hd 2 _ rfl rfl rfl) hg31 rfl ?_
       exact awl_nil ⟨rfl, post_put⟩⟩⟩
     , ⟨_, rfl, fun sl hd hr ho => by
       refine g_skip rfl (hd 2 _ rfl rfl rfl) hg31 rfl ?_
       exact awl_nil ⟨rfl, post_put⟩⟩⟩
     , ⟨_, rfl, fun sl hd hr ho => by
       refine g_skip rfl (hd 2 _ rfl rfl rfl) hg31 rfl ?_
       exact awl_nil ⟨rfl, post_put⟩⟩⟩
     , ⟨_, rfl, fun sl hd hr ho => by
       refine g_skip rfl (hd 2 _ rfl rfl rfl) hg31 rfl ?_
       exact awl_nil ⟨rfl, post_put⟩⟩⟩
     , ⟨_, rfl, fun sl hd hr ho => by
       refine g_skip rfl (hd 2 _ rfl rfl rfl) hg31 rfl ?_
       exact awl_nil ⟨rfl, post_put⟩⟩⟩
     , ⟨_, rfl, fun sl hd hr ho => by
       refine g_skip rfl (hd 2 _ rfl rfl rfl) hg31 rfl ?_
       exact awl_nil ⟨rfl, post_put⟩⟩⟩
     (by rfl) ?_
    refine g_skip rfl rfl hg31 rfl ?_
    refine r_pickF rfl hg31 rfl rfl ?_
    refine awl_nil ?_
    refine x_then ?_
    refine awp_condF rfl ?_
    refine awp_skip ?_
    refine x_then ?_
    refine awp_region ?_
    refine r_move rfl rfl ?_
    refine r_move rfl rfl ?_
    refine r_move rfl rfl ?_
    refine r_index rfl rfl rfl TF.sl25 TF.sz57 (by omega) (get_map hx) rfl ?_
    first | (refine r_loadAb 0 rfl rfl TF.agg57 TF.sz57 rfl rfl ?_) | (refine r_loadA rfl TF.agg57 TF.sz57 rfl rfl ?_)
    refine r_lit 51 (parts := [(0, .tmp 50)]) rfl TF.sl25 TF.sz57 TF.zraw57 rfl rfl rfl rfl rfl rfl rfl ?_
    refine r_append 7 rfl (by first | exact .own _ | exact .nil) rfl (by first | exact .sl _ | exact .own _ _ | exact .nil) TF.sl25 TF.sz57 (by decide) TF.by57 TF.zlen57 (by simp [chunks]; omega) (by simp [chunks]; omega) rfl ?_
    refine r_assign rfl rfl ?_
    refine awl_nil ?_
    refine x_block ?_
    refine x_then ?_
    refine awp_region ?_
    refine r_move rfl rfl ?_
    refine r_ari _ rfl rfl rfl (wrap_id (by first | omega | (simp; omega))) rfl ?_
    refine r_assign rfl rfl ?_
    refine awl_nil ?_
    refine x_then ?_
    refine ⟨l.length - (i + 1), ⟨62, [(0, .a (.sl 5 (l.map itC))), (2, .a (.v (.int .u64 (v)))), (4, .a (.v (.pointer (some ⟨b4, 0, none⟩)))), (7, .own 7 5 ((o ++ [x]).map itC)), (8, .a (.v (.bool (true)))), (9, .a (.v (.int .i64 (((i + 1) : Int)))))], [⟨b4, true, .box k.cs⟩]⟩, ⟨rfl, (Slots.cons rfl (by first | exact .refl _ | exact .nilOwn _ _ | exact .nilSl _ | exact .ownSl _ _ _  | exact SV.le.ownEq (by first | rfl | (simp; done) | (simp; rfl)) | exact SV.le.of_eq (by first | rfl | (simp; done) | (simp; rfl))) (Slots.cons rfl (by first | exact .refl _ | exact .nilOwn _ _ | exact .nilSl _ | exact .ownSl _ _ _  | exact SV.le.ownEq (by first | rfl | (simp; done) | (simp; rfl)) | exact SV.le.of_eq (by first | rfl | (simp; done) | (simp; rfl))) (Slots.cons rfl (by first | exact .refl _ | exact .nilOwn _ _ | exact .nilSl _ | exact .ownSl _ _ _  | exact SV.le.ownEq (by first | rfl | (simp; done) | (simp; rfl)) | exact SV.le.of_eq (by first | rfl | (simp; done) | (simp; rfl))) (Slots.cons rfl (by first | exact .refl _ | exact .nilOwn _ _ | exact .nilSl _ | exact .ownSl _ _ _  | exact SV.le.ownEq (by first | rfl | (simp; done) | (simp; rfl)) | exact SV.le.of_eq (by first | rfl | (simp; done) | (simp; rfl))) (Slots.cons rfl (by first | exact .refl _ | exact .nilOwn _ _ | exact .nilSl _ | exact .ownSl _ _ _  | exact SV.le.ownEq (by first | rfl | (simp; done) | (simp; rfl)) | exact SV.le.of_eq (by first | rfl | (simp; done) | (simp; rfl))) (Slots.cons rfl (by first | exact .refl _ | exact .nilOwn _ _ | exact .nilSl _ | exact .ownSl _ _ _  | exact SV.le.ownEq (by first | rfl | (simp; done) | (simp; rfl)) | exact SV.le.of_eq (by first | rfl | (simp; done) | (simp; rfl))) Slots.nil)))))), (by first | exact List.Sublist.refl _ | exact .cons_cons _ (.cons _ (.refl _)) | exact List.nil_sublist _ | exact .cons _ (.refl _) | exact .cons _ (.cons _ (.refl _)) | exact .cons _ (.cons _ (.cons _ (.refl _))) | exact .cons _ (.cons _ (.cons _ (.cons _ (.refl _)))) | exact .cons_cons _ (List.nil_sublist _))⟩, (by omega), ⟨i + 1, true, o ++ [x], rfl, rfl, (by omega), (by rw [← hgo, drop_get hx, go_else hne hnl]; simp)⟩⟩
 ·
  have hge : l.length ≤ i := by have := of_decide_eq_false hc0; simp at this; omega
  have hol : o.length ≤ 2001 := by have h1 := congrArg List.length hgo; have h2 := refPut_len l k v; rw [List.length_append] at h1; omega
  rw [List.drop_of_length_le hge] at hgo
  refine awp_exit ?_
  refine x_thenE ?_
  refine x_thenE ?_
  refine x_blockE ?_
  refine x_then ?_
  refine awp_seq ?_
  refine awp_seq ?_
  refine awp_region ?_
  refine r_move rfl rfl ?_
  refine r_not rfl rfl ?_
  refine awl_nil ?_
  refine x_then ?_
  refine awp_cond rfl (fun hc3 => ?_) (fun hc3 => ?_)
  ·
   obtain rfl : d = false := by simpa using hc3
   have hfin : o ++ [(k, v)] = refPut l k v := hgo
   refine awp_region ?_
   refine r_move rfl rfl ?_
   first | (refine r_loadAb 0 rfl rfl TF.agg47 TF.sz47 rfl rfl ?_) | (refine r_loadA rfl TF.agg47 TF.sz47 rfl rfl ?_)
   refine r_move rfl rfl ?_
   refine r_build (parts := [(0, .tmp 56), (1, .tmp 57)]) rfl TF.pl57 TF.zero57 rfl rfl rfl ?_
   refine r_lit 59 (parts := [(0, .tmp 58)]) rfl TF.sl25 TF.sz57 TF.zraw57 rfl rfl rfl rfl rfl rfl rfl ?_
   refine r_append 7 rfl (by first | exact .own _ | exact .nil) rfl (by first | exact .sl _ | exact .own _ _ | exact .nil) TF.sl25 TF.sz57 (by decide) TF.by57 TF.zlen57 (by simp [chunks]; omega) (by simp [chunks]; omega) rfl ?_
   refine r_assign rfl rfl ?_
   refine awl_nil ?_
   refine x_then ?_
   refine awp_seq ?_
   refine awp_region ?_
   refine r_move rfl rfl ?_
   refine r_assign rfl rfl ?_
   refine awl_nil ?_
   refine x_then ?_
   refine awp_ret ?_
   exact ⟨(.inl rfl), _, [], (.one (by first | exact .mk rfl rfl | exact .nil rfl)), ⟨rfl, by rw [← hfin, List.map_append]; rfl⟩, (List.nil_sublist _), (by simp)⟩
  ·
   obtain rfl : d = true := by simpa using hc3
   have hfin : o = refPut l k v := by rw [← hgo, refPutGo]; simp
   refine awp_skip ?_
   refine x_then ?_
   refine awp_seq ?_
   refine awp_region ?_
   refine r_move rfl rfl ?_
   refine r_assign rfl rfl ?_
   refine awl_nil ?_
   refine x_then ?_
   refine awp_ret ?_
   exact ⟨(.inl rfl), _, [], (.one (by first | exact .mk rfl rfl | exact .nil rfl)), ⟨rfl, by rw [← hfin]; rfl⟩, (List.nil_sublist _), (by simp)⟩
end Go.Proofs.Ytljgdbgcleibjaa.A
namespace Go.Proofs.Ytljgdbgcleibjaa.A
open Go Go.RowKit
set_option linter.unusedVariables false
set_option linter.unusedSimpArgs false
set_option maxRecDepth 100000
theorem TF.sl29 : sliceT Try.prog 29 = some 55 := by kernel_rfl
theorem TF.sz55 : szT Try.prog 55 = some 5 := by kernel_rfl
theorem TF.zraw55 : zeroT Try.prog 55 = some [(.int .i64 0), (.int .i64 0), (.int .i64 0), (.int .u64 0), (.bool false)] := by kernel_rfl
theorem TF.pl55 : placesT Try.prog 55 = some [(0, 4), (4, 1)] := by kernel_rfl
theorem TF.zero55 : ZeroT Try.prog 55 [.v (.int .i64 0), .v (.int .i64 0), .v (.int .i64 0), .v (.int .u64 0), .v (.bool false)] := ⟨[(.int .i64 0), (.int .i64 0), (.int .i64 0), (.int .u64 0), (.bool false)], by kernel_rfl, (LeCells.refl _)⟩
theorem TF.by55 : bytesT Try.prog 55 = some 40 := by kernel_rfl
theorem TF.zlen55 : (zeroT Try.prog 55).map (·.length) = some 5 := by kernel_rfl
theorem TF.agg55 : aggT Try.prog 55 = some true := by kernel_rfl
end Go.Proofs.Ytljgdbgcleibjaa.A
namespace Go.Proofs.Ytljgdbgcleibjaa.A
open Go Go.RowKit
set_option linter.unusedVariables false
set_option linter.unusedSimpArgs false
structure Ac where
  del : Bool
  k : Sp
  v : Int
  deriving Inhabited
def Ac.cs (a : Ac) : List AV := [.v (.bool a.del)] ++ a.k.cs ++ [.v (.int .u64 a.v)]
def refStep (x : List It) (a : Ac) : List It := if a.del then refDel x a.k else refPut x a.k a.v
def refPlay (x : List It) (l : List Ac) : List It := l.foldl refStep x
theorem refStep_len (x : List It) (a : Ac) : (refStep x a).length ≤ x.length + 1 := by
  unfold refStep; split
  · exact Nat.le_trans (List.length_filter_le _ _) (by omega)
  · exact refPut_len _ _ _
theorem refPlay_snoc {x : List It} {l : List Ac} {j : Nat} {a : Ac} (h : l[j]? = some a) : refPlay x (l.take (j + 1)) = refStep (refPlay x (l.take j)) a := by
  unfold refPlay; rw [List.take_add_one, h, List.foldl_append]; rfl
theorem refPlay_len (x : List It) : ∀ (l : List Ac), (refPlay x l).length ≤ x.length + l.length := by
  intro l
  have : ∀ (l : List Ac) (x : List It), (l.foldl refStep x).length ≤ x.length + l.length := by
    intro l
    induction l with
    | nil => intro x; simp
    | cons a l ih => intro x; rw [List.foldl_cons]; have h1 := ih (refStep x a); have h2 := refStep_len x a; rw [List.length_cons]; omega
  exact this l x
def RowC (r : AV) (os : List OE) (l : List (Sp × Bool)) : Prop :=
  (l = [] ∧ r = .v (.slice none 0 0) ∧ os = []) ∨ ∃ g cap n L, l ≠ [] ∧ r = .v (.slice (some ⟨g, 0, none⟩) n cap) ∧ n = L.length ∧ os = [⟨g, true, .buf 5 L cap 55⟩] ∧ L = l.map chC
theorem take_snoc {l cs : List (Sp × Bool)} {c : Sp × Bool} (h1 : cs = l.take cs.length) (h2 : l[cs.length]? = some c) : cs ++ [c] = l.take (cs ++ [c]).length := by
  have e : (cs ++ [c]).length = cs.length + 1 := by simp
  rw [e, List.take_add_one, h2, ← h1]; rfl
theorem good_len {t : TreeV} {x : List It} (h : Good t x) (hx : x.length ≤ 1000) : 0 ≤ lenT t ∧ lenT t ≤ 1000000 := by rw [h.ln]; omega
theorem good_ids {t : TreeV} {x : List It} (h : Good t x) (hx : x.length ≤ 1000) : (idl t).length ≤ 100000 := Nat.le_trans (idl_len h) (by omega)
end Go.Proofs.Ytljgdbgcleibjaa.A
namespace Go.Proofs.Ytljgdbgcleibjaa.A
open Go Go.RowKit
set_option linter.unusedVariables false
set_option linter.unusedSimpArgs false
set_option maxRecDepth 100000
theorem TF.en37 : entersT Try.prog 37 := enters_of Try.func37 (by kernel_rfl) (by kernel_rfl)
theorem TF.zero29 : ZeroT Try.prog 29 [.v (.slice none 0 0)] := ⟨[(.slice none 0 0)], by kernel_rfl, (LeCells.refl _)⟩
theorem TF.en20 : entersT Try.prog 20 := enters_of Try.func20 (by kernel_rfl) (by kernel_rfl)
theorem TF.agg29 : aggT Try.prog 29 = some false := by kernel_rfl
theorem TF.sz29 : szT Try.prog 29 = some 1 := by kernel_rfl
theorem TF.sl22 : sliceT Try.prog 22 = some 63 := by kernel_rfl
theorem TF.sz63 : szT Try.prog 63 = some 6 := by kernel_rfl
theorem TF.agg63 : aggT Try.prog 63 = some true := by kernel_rfl
theorem TF.zero63 : ZeroT Try.prog 63 [.v (.bool false), .v (.int .i64 0), .v (.int .i64 0), .v (.int .i64 0), .v (.int .u64 0), .v (.int .u64 0)] := ⟨[(.bool false), (.int .i64 0), (.int .i64 0), (.int .i64 0), (.int .u64 0), (.int .u64 0)], by kernel_rfl, (LeCells.refl _)⟩
theorem TF.f63_0 : fieldT Try.prog 63 0 = some (0, 4) := by kernel_rfl
theorem TF.f63_1 : fieldT Try.prog 63 1 = some (1, 47) := by kernel_rfl
theorem TF.en21 : entersT Try.prog 21 := enters_of Try.func21 (by kernel_rfl) (by kernel_rfl)
theorem TF.en32 : entersT Try.prog 32 := enters_of Try.func32 (by kernel_rfl) (by kernel_rfl)
theorem TF.f63_2 : fieldT Try.prog 63 2 = some (5, 45) := by kernel_rfl
theorem TF.en23 : entersT Try.prog 23 := enters_of Try.func23 (by kernel_rfl) (by kernel_rfl)
theorem TF.en33 : entersT Try.prog 33 := enters_of Try.func33 (by kernel_rfl) (by kernel_rfl)
theorem told_ok (a b : TreeV) (hwa : wfRt (rootT a)) (hwb : wfRt (rootT b)) (haN : (idl a).length ≤ 100000) (hbN : (idl b).length ≤ 100000) (hkey : ((ownTwo a b).map keyE).Nodup) (many : Int) (hm1 : 1 ≤ many) (hm2 : many ≤ 1000000) : AC Try.prog 16 [encT a, encT b, .v (.int .i64 many)] [] (fun r n => n = [] ∧ r = .sl 5 (((chg a b).take many.toNat).map chC)) := by
 refine ac_of_awp (rs := [6]) (nt := 26) Try.func16 rfl rfl rfl rfl (fun w0 C0 hq => ?_)
 refine awp_seq ?_
 refine awp_region ?_
 refine r_box rfl rfl rfl (fun b5 => ?_)
 refine r_assign rfl rfl ?_
 refine awl_nil ?_
 refine x_then ?_
 refine awp_seq ?_
 refine awp_region ?_
 refine r_alloc TF.zero29 rfl (fun b7 => ?_)
 refine awl_nil ?_
 refine x_then ?_
 refine awp_seq ?_
 refine awp_seq ?_
 refine awp_region ?_
 refine r_move rfl rfl ?_
 refine r_move rfl rfl ?_
 refine r_call0 hq rfl rfl (.cons (.ev rfl rfl) (.cons (.ev rfl rfl) .nil)) (Between_ok a b) rfl TF.en20 rfl (fun r hr => ?_)
 obtain rfl := hr
 refine awl_nil ?_
 refine x_then ?_
 refine awp_block ?_
 refine awp_rangeFuncS (fun pre wo => ∃ (hd : AV) (os : List OE) (cs : List (Sp × Bool)), pre = cs.map chA ∧ cs = (chg a b).take cs.length ∧ (cs.length : Int) < many ∧ RowC hd os cs ∧ wo = os ++ [⟨b7, true, .box [hd]⟩, ⟨b5, true, .box [.v (.int .i64 many)]⟩]) (fun c pre wo => c = .exit 0 ∧ ∃ (hd : AV) (os : List OE) (cs : List (Sp × Bool)), cs = (chg a b).take cs.length ∧ (cs.length : Int) = many ∧ RowC hd os cs ∧ wo = os ++ [⟨b7, true, .box [hd]⟩, ⟨b5, true, .box [.v (.int .i64 many)]⟩]) [(5, .a (.v (.pointer (some ⟨b5, 0, none⟩)))), (7, .a (.v (.pointer (some ⟨b7, 0, none⟩))))] [true, true] hq rfl (Between1_ok a b hwa hwb haN hbN hkey) TF.en37 (fun pre x ⟨c, _, _, h⟩ => by subst h; rfl) rfl rfl rfl (by first | exact List.Sublist.refl _ | exact .cons_cons _ (.cons _ (.refl _)) | exact List.nil_sublist _ | exact .cons _ (.refl _) | exact .cons _ (.cons _ (.refl _)) | exact .cons _ (.cons _ (.cons _ (.refl _))) | exact .cons _ (.cons _ (.cons _ (.cons _ (.refl _)))) | exact .cons_cons _ (List.nil_sublist _)) (Slots.cons rfl (by first | exact .refl _ | exact .nilOwn _ _ | exact .nilSl _ | exact .ownSl _ _ _  | exact SV.le.of_eq (by simp)) (Slots.cons rfl (by first | exact .refl _ | exact .nilOwn _ _ | exact .nilSl _ | exact .ownSl _ _ _  | exact SV.le.of_eq (by simp)) Slots.nil)) rfl rfl ⟨.v (.slice none 0 0), [], [], rfl, rfl, by simp; omega, .inl ⟨rfl, rfl, rfl⟩, rfl⟩ ?_ ?_ ?_
 ·
  intro lr pre x wo rec busy w0 C0 hq hj hax
  obtain ⟨hd, os, cs, rfl, hcs, hcm, hR, rfl⟩ := hj
  obtain ⟨c, hct, hpre, rfl⟩ := hax
  rw [List.length_map] at hct
  rcases hR with ⟨hcn, rfl, rfl⟩ | ⟨g, cap, n, L, hcn, rfl, hnL, rfl, hL⟩
  ·
   have hcl : cs.length = 0 := by rw [hcn]; rfl
   refine awpi_seq ?_
   refine awpi_region ?_
   refine awli_op (fun c h => (by cases h)) ?_
   refine r_alloc TF.zero47 rfl (fun b8 => ?_)
   refine awl_nil ⟨rfl, ?_⟩
   refine awli_op (fun c h => (by cases h)) ?_
   first | (refine r_store 0 rfl rfl rfl TF.sz47 rfl rfl rfl ?_) | (refine r_store 1 rfl rfl rfl TF.sz47 rfl rfl rfl ?_) | (refine r_store 2 rfl rfl rfl TF.sz47 rfl rfl rfl ?_) | (refine r_store 3 rfl rfl rfl TF.sz47 rfl rfl rfl ?_)
   refine awl_nil ⟨rfl, ?_⟩
   refine awli_nil ?_
   refine x_then ?_
   refine awpi_region ?_
   refine awli_op (fun c h => (by cases h)) ?_
   refine r_assign rfl rfl ?_
   refine awl_nil ⟨rfl, ?_⟩
   refine awli_nil ?_
   refine ⟨rfl, 3, rfl, ?_⟩
   refine awpi_block ?_
   refine awpi_seq ?_
   refine awpi_region ?_
   refine awli_op (fun c h => (by cases h)) ?_
   first | (refine r_load1 rfl TF.agg29 rfl ?_) | (refine r_load1b 0 rfl rfl rfl TF.agg29 rfl ?_) | (refine r_load1b 1 rfl rfl rfl TF.agg29 rfl ?_) | (refine r_load1b 2 rfl rfl rfl TF.agg29 rfl ?_) | (refine r_load1b 3 rfl rfl rfl TF.agg29 rfl ?_)
   refine awl_nil ⟨rfl, ?_⟩
   refine awli_op (fun c h => (by cases h)) ?_
   first | (refine r_loadA rfl TF.agg47 TF.sz47 rfl rfl ?_) | (refine r_loadAb 0 rfl rfl TF.agg47 TF.sz47 rfl rfl ?_) | (refine r_loadAb 1 rfl rfl TF.agg47 TF.sz47 rfl rfl ?_) | (refine r_loadAb 2 rfl rfl TF.agg47 TF.sz47 rfl rfl ?_) | (refine r_loadAb 3 rfl rfl TF.agg47 TF.sz47 rfl rfl ?_)
   refine awl_nil ⟨rfl, ?_⟩
   refine awli_op (fun c h => (by cases h)) ?_
   refine r_move rfl rfl ?_
   refine awl_nil ⟨rfl, ?_⟩
   refine awli_op (fun c h => (by cases h)) ?_
   refine r_build (parts := [(0, .tmp 16), (1, .tmp 17)]) rfl TF.pl55 TF.zero55 rfl rfl rfl ?_
   refine awl_nil ⟨rfl, ?_⟩
   refine awli_op (fun c h => (by cases h)) ?_
   refine r_lit 19 (parts := [(0, .tmp 18)]) rfl TF.sl29 TF.sz55 TF.zraw55 rfl rfl rfl rfl rfl rfl rfl ?_
   refine awl_nil ⟨rfl, ?_⟩
   refine awli_op (fun c h => (by cases h)) ?_
   refine r_appendBN rfl rfl (by first | exact .sl _ | exact .own _ _) (by simp [chunks]) TF.sl29 TF.sz55 TF.by55 TF.zlen55 (by simp [chunks] <;> omega) (by simp [chunks] <;> omega) rfl (fun gb gc => ?_)
   refine awl_nil ⟨rfl, ?_⟩
   refine awli_op (fun c h => (by cases h)) ?_
   first | (refine r_store 0 rfl rfl rfl TF.sz29 rfl rfl rfl ?_) | (refine r_store 1 rfl rfl rfl TF.sz29 rfl rfl rfl ?_) | (refine r_store 2 rfl rfl rfl TF.sz29 rfl rfl rfl ?_) | (refine r_store 3 rfl rfl rfl TF.sz29 rfl rfl rfl ?_) | (refine r_store 4 rfl rfl rfl TF.sz29 rfl rfl rfl ?_)
   refine awl_nil ⟨rfl, ?_⟩
   refine awli_nil ?_
   refine x_then ?_
   refine awpi_seq ?_
   refine awpi_region ?_
   refine awli_op (fun c h => (by cases h)) ?_
   first | (refine r_load1 rfl TF.agg29 rfl ?_) | (refine r_load1b 0 rfl rfl rfl TF.agg29 rfl ?_) | (refine r_load1b 1 rfl rfl rfl TF.agg29 rfl ?_) | (refine r_load1b 2 rfl rfl rfl TF.agg29 rfl ?_) | (refine r_load1b 3 rfl rfl rfl TF.agg29 rfl ?_) | (refine r_load1b 4 rfl rfl rfl TF.agg29 rfl ?_)
   refine awl_nil ⟨rfl, ?_⟩
   refine awli_op (fun c h => (by cases h)) ?_
   first | (refine r_lenS rfl rfl TF.sl29 rfl ?_) | (refine r_lenNil rfl TF.sl29 rfl ?_) | (refine r_lenV rfl TF.sl29 rfl ?_)
   refine awl_nil ⟨rfl, ?_⟩
   refine awli_op (fun c h => (by cases h)) ?_
   first | (refine r_load1 rfl TF.agg3 rfl ?_) | (refine r_load1b 0 rfl rfl rfl TF.agg3 rfl ?_) | (refine r_load1b 1 rfl rfl rfl TF.agg3 rfl ?_) | (refine r_load1b 2 rfl rfl rfl TF.agg3 rfl ?_) | (refine r_load1b 3 rfl rfl rfl TF.agg3 rfl ?_) | (refine r_load1b 4 rfl rfl rfl TF.agg3 rfl ?_)
   refine awl_nil ⟨rfl, ?_⟩
   refine awli_op (fun c h => (by cases h)) ?_
   refine r_cmp rfl rfl rfl rfl ?_
   refine awl_nil ⟨rfl, ?_⟩
   refine awli_nil ?_
   refine x_then ?_
   refine awpi_cond rfl (fun hc0 => ?_) (fun hc0 => ?_)
   ·
    have hge : many ≤ ((1 : Nat) : Int) := of_decide_eq_true (show decide (many ≤ ((1 : Nat) : Int)) = true from hc0)
    refine awpi_exit ?_
    refine x_blockO rfl ?_
    refine ⟨[⟨gb, true, .buf 5 [chC c] gc 55⟩, ⟨b7, true, .box [.v (.slice (some ⟨gb, 0, none⟩) [chC c].length gc)]⟩, ⟨b5, true, .box [.v (.int .i64 many)]⟩], .inr ⟨_, .exit 0, rfl, .v (.slice (some ⟨gb, 0, none⟩) [chC c].length gc), [⟨gb, true, .buf 5 [chC c] gc 55⟩], cs ++ [c], take_snoc hcs hct, by have := hge; simp only [List.length_append, List.length_singleton]; omega, .inr ⟨gb, gc, _, _, by simp, rfl, rfl, rfl, by rw [hcn]; simp⟩, rfl⟩, ?_, by simp⟩
    · exact .cons_cons _ (.cons _ (List.Sublist.refl _))
   ·
    have hlt : ¬ many ≤ ((1 : Nat) : Int) := of_decide_eq_false (show decide (many ≤ ((1 : Nat) : Int)) = false from hc0)
    refine awpi_skip ?_
    refine x_block ?_
    refine ⟨[⟨gb, true, .buf 5 [chC c] gc 55⟩, ⟨b7, true, .box [.v (.slice (some ⟨gb, 0, none⟩) [chC c].length gc)]⟩, ⟨b5, true, .box [.v (.int .i64 many)]⟩], .inl ⟨rfl, .v (.slice (some ⟨gb, 0, none⟩) [chC c].length gc), [⟨gb, true, .buf 5 [chC c] gc 55⟩], cs ++ [c], by simp, take_snoc hcs hct, by have := hlt; simp only [List.length_append, List.length_singleton]; omega, .inr ⟨gb, gc, _, _, by simp, rfl, rfl, rfl, by rw [hcn]; simp⟩, rfl⟩, ?_, by simp⟩
    · exact .cons_cons _ (.cons _ (List.Sublist.refl _))
  ·
   have hLl : L.length = cs.length := by rw [hL, List.length_map]
   refine awpi_seq ?_
   refine awpi_region ?_
   refine awli_op (fun c h => (by cases h)) ?_
   refine r_alloc TF.zero47 rfl (fun b8 => ?_)
   refine awl_nil ⟨rfl, ?_⟩
   refine awli_op (fun c h => (by cases h)) ?_
   first | (refine r_store 0 rfl rfl rfl TF.sz47 rfl rfl rfl ?_) | (refine r_store 1 rfl rfl rfl TF.sz47 rfl rfl rfl ?_) | (refine r_store 2 rfl rfl rfl TF.sz47 rfl rfl rfl ?_) | (refine r_store 3 rfl rfl rfl TF.sz47 rfl rfl rfl ?_) | (refine r_store 4 rfl rfl rfl TF.sz47 rfl rfl rfl ?_)
   refine awl_nil ⟨rfl, ?_⟩
   refine awli_nil ?_
   refine x_then ?_
   refine awpi_region ?_
   refine awli_op (fun c h => (by cases h)) ?_
   refine r_assign rfl rfl ?_
   refine awl_nil ⟨rfl, ?_⟩
   refine awli_nil ?_
   refine ⟨rfl, 4, rfl, ?_⟩
   refine awpi_block ?_
   refine awpi_seq ?_
   refine awpi_region ?_
   refine awli_op (fun c h => (by cases h)) ?_
   first | (refine r_load1 rfl TF.agg29 rfl ?_) | (refine r_load1b 0 rfl rfl rfl TF.agg29 rfl ?_) | (refine r_load1b 1 rfl rfl rfl TF.agg29 rfl ?_) | (refine r_load1b 2 rfl rfl rfl TF.agg29 rfl ?_) | (refine r_load1b 3 rfl rfl rfl TF.agg29 rfl ?_) | (refine r_load1b 4 rfl rfl rfl TF.agg29 rfl ?_)
   refine awl_nil ⟨rfl, ?_⟩
   refine awli_op (fun c h => (by cases h)) ?_
   first | (refine r_loadA rfl TF.agg47 TF.sz47 rfl rfl ?_) | (refine r_loadAb 0 rfl rfl TF.agg47 TF.sz47 rfl rfl ?_) | (refine r_loadAb 1 rfl rfl TF.agg47 TF.sz47 rfl rfl ?_) | (refine r_loadAb 2 rfl rfl TF.agg47 TF.sz47 rfl rfl ?_) | (refine r_loadAb 3 rfl rfl TF.agg47 TF.sz47 rfl rfl ?_) | (refine r_loadAb 4 rfl rfl TF.agg47 TF.sz47 rfl rfl ?_)
   refine awl_nil ⟨rfl, ?_⟩
   refine awli_op (fun c h => (by cases h)) ?_
   refine r_move rfl rfl ?_
   refine awl_nil ⟨rfl, ?_⟩
   refine awli_op (fun c h => (by cases h)) ?_
   refine r_build (parts := [(0, .tmp 16), (1, .tmp 17)]) rfl TF.pl55 TF.zero55 rfl rfl rfl ?_
   refine awl_nil ⟨rfl, ?_⟩
   refine awli_op (fun c h => (by cases h)) ?_
   refine r_lit 19 (parts := [(0, .tmp 18)]) rfl TF.sl29 TF.sz55 TF.zraw55 rfl rfl rfl rfl rfl rfl rfl ?_
   refine awl_nil ⟨rfl, ?_⟩
   refine awli_op (fun c h => (by cases h)) ?_
   refine r_appendBG 1 rfl hnL rfl rfl (by first | exact .sl _ | exact .own _ _) (by simp [chunks]) TF.sl29 TF.sz55 TF.by55 TF.zlen55 (by simp [chunks] <;> omega) (by simp [chunks] <;> omega) rfl (fun gb gc => ?_)
   refine awl_nil ⟨rfl, ?_⟩
   refine awli_op (fun c h => (by cases h)) ?_
   first | (refine r_store 0 rfl rfl rfl TF.sz29 rfl rfl rfl ?_) | (refine r_store 1 rfl rfl rfl TF.sz29 rfl rfl rfl ?_) | (refine r_store 2 rfl rfl rfl TF.sz29 rfl rfl rfl ?_) | (refine r_store 3 rfl rfl rfl TF.sz29 rfl rfl rfl ?_) | (refine r_store 4 rfl rfl rfl TF.sz29 rfl rfl rfl ?_)
   refine awl_nil ⟨rfl, ?_⟩
   refine awli_nil ?_
   refine x_then ?_
   refine awpi_seq ?_
   refine awpi_region ?_
   refine awli_op (fun c h => (by cases h)) ?_
   first | (refine r_load1 rfl TF.agg29 rfl ?_) | (refine r_load1b 0 rfl rfl rfl TF.agg29 rfl ?_) | (refine r_load1b 1 rfl rfl rfl TF.agg29 rfl ?_) | (refine r_load1b 2 rfl rfl rfl TF.agg29 rfl ?_) | (refine r_load1b 3 rfl rfl rfl TF.agg29 rfl ?_) | (refine r_load1b 4 rfl rfl rfl TF.agg29 rfl ?_)
   refine awl_nil ⟨rfl, ?_⟩
   refine awli_op (fun c h => (by cases h)) ?_
   first | (refine r_lenS rfl rfl TF.sl29 rfl ?_) | (refine r_lenNil rfl TF.sl29 rfl ?_) | (refine r_lenV rfl TF.sl29 rfl ?_)
   refine awl_nil ⟨rfl, ?_⟩
   refine awli_op (fun c h => (by cases h)) ?_
   first | (refine r_load1 rfl TF.agg3 rfl ?_) | (refine r_load1b 0 rfl rfl rfl TF.agg3 rfl ?_) | (refine r_load1b 1 rfl rfl rfl TF.agg3 rfl ?_) | (refine r_load1b 2 rfl rfl rfl TF.agg3 rfl ?_) | (refine r_load1b 3 rfl rfl rfl TF.agg3 rfl ?_) | (refine r_load1b 4 rfl rfl rfl TF.agg3 rfl ?_)
   refine awl_nil ⟨rfl, ?_⟩
   refine awli_op (fun c h => (by cases h)) ?_
   refine r_cmp rfl rfl rfl rfl ?_
   refine awl_nil ⟨rfl, ?_⟩
   refine awli_nil ?_
   refine x_then ?_
   refine awpi_cond rfl (fun hc0 => ?_) (fun hc0 => ?_)
   ·
    have hge : many ≤ (cs.length : Int) + 1 := by have := of_decide_eq_true hc0; simp [chunks] at this; omega
    refine awpi_exit ?_
    refine x_blockO rfl ?_
    refine ⟨[⟨gb, true, .buf 5 (L ++ [chC c]) gc 55⟩, ⟨b7, true, .box [.v (.slice (some ⟨gb, 0, none⟩) (L ++ [chC c]).length gc)]⟩, ⟨b5, true, .box [.v (.int .i64 many)]⟩], .inr ⟨_, .exit 0, rfl, .v (.slice (some ⟨gb, 0, none⟩) (L ++ [chC c]).length gc), [⟨gb, true, .buf 5 (L ++ [chC c]) gc 55⟩], cs ++ [c], take_snoc hcs hct, by have := hge; simp only [List.length_append, List.length_singleton]; omega, .inr ⟨gb, gc, _, _, by simp, rfl, rfl, rfl, by rw [hL]; simp⟩, rfl⟩, ?_, by simp⟩
    · exact .cons_cons _ (.cons _ (List.Sublist.refl _))
   ·
    have hlt : ¬ many ≤ (cs.length : Int) + 1 := by have := of_decide_eq_false hc0; simp [chunks] at this; omega
    refine awpi_skip ?_
    refine x_block ?_
    refine ⟨[⟨gb, true, .buf 5 (L ++ [chC c]) gc 55⟩, ⟨b7, true, .box [.v (.slice (some ⟨gb, 0, none⟩) (L ++ [chC c]).length gc)]⟩, ⟨b5, true, .box [.v (.int .i64 many)]⟩], .inl ⟨rfl, .v (.slice (some ⟨gb, 0, none⟩) (L ++ [chC c]).length gc), [⟨gb, true, .buf 5 (L ++ [chC c]) gc 55⟩], cs ++ [c], by simp, take_snoc hcs hct, by have := hlt; simp only [List.length_append, List.length_singleton]; omega, .inr ⟨gb, gc, _, _, by simp, rfl, rfl, rfl, by rw [hL]; simp⟩, rfl⟩, ?_, by simp⟩
    · exact .cons_cons _ (.cons _ (List.Sublist.refl _))
 ·
  intro xs wo' hG hJ
  obtain ⟨hd, os, cs, hxs, hcs, hcm, hR, rfl⟩ := hJ
  have hfin : (chg a b).take many.toNat = cs := by
   have h1 : cs.length = (chg a b).length := by have := congrArg List.length (hxs.symm.trans hG); simpa using this
   rw [h1, List.take_length] at hcs
   rw [List.take_of_length_le (by omega)]; exact hcs.symm
  rw [hfin]
  rcases hR with ⟨hcn, rfl, rfl⟩ | ⟨g, cap, n, L, hcn, rfl, hnL, rfl, hL⟩
  ·
   refine x_block ?_
   refine x_then ?_
   refine awp_seq ?_
   refine awp_region ?_
   first | (refine r_load1 rfl TF.agg29 rfl ?_) | (refine r_load1b 0 rfl rfl rfl TF.agg29 rfl ?_) | (refine r_load1b 1 rfl rfl rfl TF.agg29 rfl ?_) | (refine r_load1b 2 rfl rfl rfl TF.agg29 rfl ?_)
   skip
   refine r_assign rfl rfl ?_
   refine awl_nil ?_
   refine x_then ?_
   refine awp_ret ?_
   exact ⟨(.inl rfl), _, [], (.one (.nil (sz := 5) rfl)), ⟨rfl, by rw [hcn]; rfl⟩, (List.nil_sublist _), (by simp)⟩
  ·
   refine x_block ?_
   refine x_then ?_
   refine awp_seq ?_
   refine awp_region ?_
   first | (refine r_load1 rfl TF.agg29 rfl ?_) | (refine r_load1b 0 rfl rfl rfl TF.agg29 rfl ?_) | (refine r_load1b 1 rfl rfl rfl TF.agg29 rfl ?_) | (refine r_load1b 2 rfl rfl rfl TF.agg29 rfl ?_)
   refine awl_imp (imp_commitB 0 25 (l := L) rfl hnL rfl) ?_
   refine r_assign rfl rfl ?_
   refine awl_nil ?_
   refine x_then ?_
   refine awp_ret ?_
   exact ⟨(.inl rfl), _, [], (.one (by first | exact .mk rfl rfl | exact .nil rfl)), ⟨rfl, by rw [hL]; rfl⟩, (List.nil_sublist _), (by simp)⟩
 ·
  intro c xs wo' hX
  obtain ⟨rfl, hd, os, cs, hcs, hge, hR, rfl⟩ := hX
  have hfin : (chg a b).take many.toNat = cs := by rw [← hge]; exact hcs.symm
  rw [hfin]
  rcases hR with ⟨hcn, _, _⟩ | ⟨g, cap, n, L, hcn, rfl, hnL, rfl, hL⟩
  · exfalso; rw [hcn] at hge; simp at hge; omega
  refine awp_exit ?_
  refine x_blockE ?_
  refine x_then ?_
  refine awp_seq ?_
  refine awp_region ?_
  first | (refine r_load1 rfl TF.agg29 rfl ?_) | (refine r_load1b 0 rfl rfl rfl TF.agg29 rfl ?_) | (refine r_load1b 1 rfl rfl rfl TF.agg29 rfl ?_) | (refine r_load1b 2 rfl rfl rfl TF.agg29 rfl ?_)
  refine awl_imp (imp_commitB 0 25 (l := L) rfl hnL rfl) ?_
  refine r_assign rfl rfl ?_
  refine awl_nil ?_
  refine x_then ?_
  refine awp_ret ?_
  exact ⟨(.inl rfl), _, [], (.one (by first | exact .mk rfl rfl | exact .nil rfl)), ⟨rfl, by rw [hL]; rfl⟩, (List.nil_sublist _), (by simp)⟩
set_option maxHeartbeats 1000000 in
theorem play_ok (t : TreeV) (x : List It) (hG : Good t x) (l : List Ac) (hl : x.length + l.length ≤ 1000) : AC Try.prog 12 [encT t, .sl 5 (x.map itC), .sl 6 (l.map Ac.cs)] [] (fun r n => n = [] ∧ ∃ t', Good t' (refPlay x l) ∧ r = .tup [encT t', .sl 5 ((refPlay x l).map itC)]) := by
 refine ac_of_awp (rs := [6, 7]) (nt := 41) Try.func12 rfl rfl rfl rfl (fun w0 C0 hq => ?_)
 refine awp_seq ?_
 refine awp_region ?_
 refine r_assign rfl rfl ?_
 refine r_assign rfl rfl ?_
 refine awl_nil ?_
 refine x_then ?_
 refine awp_seq ?_
 refine awp_seq ?_
 refine awp_region ?_
 refine r_move rfl rfl ?_
 first | (refine r_lenS rfl rfl TF.sl22 rfl ?_) | (refine r_lenNil rfl TF.sl22 rfl ?_) | (refine r_lenV rfl TF.sl22 rfl ?_)
 refine r_move rfl rfl ?_
 refine awl_nil ?_
 refine x_then ?_
 refine awp_block ?_
 refine awp_loop (fun nn0 S => ∃ j : Nat, ∃ tc : TreeV, S = ⟨41, [(0, .a (encT tc)), (1, .a (.sl 5 ((refPlay x (l.take j)).map itC))), (10, .a (.sl 6 (l.map Ac.cs))), (11, .a (.v (.int .i64 (((l.map Ac.cs).length : Nat))))), (12, .a (.v (.int .i64 ((j : Int)))))], []⟩ ∧ nn0 = l.length - j ∧ (j ≤ l.length) ∧ (Good tc (refPlay x (l.take j)))) (l.length - (0)) ⟨41, [(0, .a (encT (t))), (1, .a (.sl 5 ((refPlay x (l.take (0))).map itC))), (10, .a (.sl 6 (l.map Ac.cs))), (11, .a (.v (.int .i64 (((l.map Ac.cs).length : Nat))))), (12, .a (.v (.int .i64 (((0) : Int)))))], []⟩ ⟨rfl, (Slots.cons rfl (by first | exact .refl _ | exact .nilOwn _ _ | exact .nilSl _ | exact .ownSl _ _ _  | exact SV.le.of_eq (by simp)) (Slots.cons rfl (by first | exact .refl _ | exact .nilOwn _ _ | exact .nilSl _ | exact .ownSl _ _ _  | exact SV.le.of_eq (by simp)) (Slots.cons rfl (by first | exact .refl _ | exact .nilOwn _ _ | exact .nilSl _ | exact .ownSl _ _ _  | exact SV.le.of_eq (by simp)) (Slots.cons rfl (by first | exact .refl _ | exact .nilOwn _ _ | exact .nilSl _ | exact .ownSl _ _ _  | exact SV.le.of_eq (by simp)) (Slots.cons rfl (by first | exact .refl _ | exact .nilOwn _ _ | exact .nilSl _ | exact .ownSl _ _ _  | exact SV.le.of_eq (by simp)) Slots.nil))))), (by first | exact List.Sublist.refl _ | exact .cons_cons _ (.cons _ (.refl _)) | exact List.nil_sublist _ | exact .cons _ (.refl _) | exact .cons _ (.cons _ (.refl _)) | exact .cons _ (.cons _ (.cons _ (.refl _))) | exact .cons _ (.cons _ (.cons _ (.cons _ (.refl _)))) | exact .cons_cons _ (List.nil_sublist _))⟩ ⟨0, t, rfl, rfl, Nat.zero_le _, hG⟩ ?_
 rintro nn0 _ ⟨j, tc, rfl, rfl, hj, hgt⟩
 refine awp_seq ?_
 refine awp_region ?_
 refine r_cmp rfl rfl rfl rfl ?_
 refine awl_nil ?_
 refine x_then ?_
 refine awp_seq ?_
 refine awp_cond rfl (fun hc0 => ?_) (fun hc0 => ?_)
 ·
  have hltac : j < l.length := by have := of_decide_eq_true hc0; simpa using this
  obtain ⟨ac, hac⟩ := get_lt hltac
  have hxl : (refPlay x (l.take j)).length ≤ 1000 := Nat.le_trans (refPlay_len _ _) (by rw [List.length_take]; omega)
  have htn := good_len hgt hxl
  refine awp_skip ?_
  refine x_then ?_
  refine awp_seq ?_
  refine awp_block ?_
  refine awp_seq ?_
  refine awp_region ?_
  refine r_index rfl rfl rfl TF.sl22 TF.sz63 (by omega) (get_map hac) rfl ?_
  refine r_loadA rfl TF.agg63 TF.sz63 rfl rfl ?_
  refine r_alloc TF.zero63 rfl (fun b9 => ?_)
  refine r_store 0 rfl rfl rfl TF.sz63 rfl rfl rfl ?_
  refine awl_nil ?_
  refine x_then ?_
  refine awp_seq ?_
  refine awp_region ?_
  first | (refine r_fieldpt rfl TF.f63_0 TF.sz4 rfl ?_) | (refine r_fieldcp rfl TF.f63_0 TF.sz4 rfl ?_) | (refine r_fieldb rfl TF.f63_0 TF.sz4 rfl ?_)
  first | (refine r_load1b 0 rfl rfl rfl TF.agg4 rfl ?_) | (refine r_load1 rfl TF.agg4 rfl ?_)
  refine awl_nil ?_
  refine x_then ?_
  refine awp_cond rfl (fun hc1 => ?_) (fun hc1 => ?_)
  ·
   have hdl : ac.del = true := hc1
   have hstep : refStep (refPlay x (l.take j)) ac = refDel (refPlay x (l.take j)) ac.k := by unfold refStep; rw [if_pos hdl]
   refine awp_any (fun B S => ∃ t2 : TreeV, ∃ sl : List (Nat × SV), S = ⟨41, sl, [⟨b9, true, .box ac.cs⟩]⟩ ∧ find 9 sl = some (.a (.v (.pointer (some ⟨b9, 0, none⟩)))) ∧ find 10 sl = some (.a (.sl 6 (l.map Ac.cs))) ∧ find 11 sl = some (.a (.v (.int .i64 (((l.map Ac.cs).length : Nat))))) ∧ find 12 sl = some (.a (.v (.int .i64 ((j : Int))))) ∧ (B 0 = true → find 18 sl = some (.a (encT tc))) ∧ (B 1 = true → find 19 sl = some (.a (.v (.pointer (some ⟨b9, 0 + 1, none⟩))))) ∧ (B 2 = true → find 20 sl = some (.a (spA ac.k))) ∧ (B 3 = true → find 21 sl = some (.a (encT t2))) ∧ (B 4 = true → find 22 sl = some (.a (.sl 5 ((refPlay x (l.take j)).map itC)))) ∧ (B 5 = true → find 23 sl = some (.a (.v (.pointer (some ⟨b9, 0 + 1, none⟩))))) ∧ (B 6 = true → find 24 sl = some (.a (spA ac.k))) ∧ (B 7 = true → find 25 sl = some (.a (.sl 5 ((refDel (refPlay x (l.take j)) ac.k).map itC)))) ∧ (B 8 = true → find 0 sl = some (.a (encT t2))) ∧ (B 9 = true → find 1 sl = some (.a (.sl 5 ((refDel (refPlay x (l.take j)) ac.k).map itC)))) ∧ (B 3 = true → Good t2 (refDel (refPlay x (l.take j)) ac.k)) ∧ (B 8 = false → find 0 sl = some (.a (encT tc))) ∧ (B 9 = false → find 1 sl = some (.a (.sl 5 ((refPlay x (l.take j)).map itC))))) TF.mixed rfl ⟨none, _, rfl, rfl, rfl, rfl, rfl, (fun h => by cases h), (fun h => by cases h), (fun h => by cases h), (fun h => by cases h), (fun h => by cases h), (fun h => by cases h), (fun h => by cases h), (fun h => by cases h), (fun h => by cases h), (fun h => by cases h), (fun h => by cases h), (fun _ => rfl), (fun _ => rfl)⟩ ⟨⟨⟨⟨⟨⟨⟨⟨⟨⟨trivial
    , ⟨_, rfl, fun B S hBi hdep hcl => by
      rintro ⟨t2, sl, rfl, h9, h10, h11, h12, f0, f1, f2, f3, f4, f5, f6, f7, f8, f9, p3, g0, g1⟩
      refine r_move (g0 (by cases h : B 8 with | false => rfl | true => exact absurd (hcl 8 0 h rfl) (by rw [hBi]; decide))) rfl ?_
      exact awl_nil ⟨rfl, t2, _, rfl, h9, h10, h11, h12, (fun h => rfl), f1, f2, f3, f4, f5, f6, f7, f8, f9, p3, g0, g1⟩⟩⟩
    , ⟨_, rfl, fun B S hBi hdep hcl => by
      rintro ⟨t2, sl, rfl, h9, h10, h11, h12, f0, f1, f2, f3, f4, f5, f6, f7, f8, f9, p3, g0, g1⟩
      first | (refine r_fieldpt h9 TF.f63_1 TF.sz47 rfl ?_) | (refine r_fieldcp h9 TF.f63_1 TF.sz47 rfl ?_) | (refine r_fieldb h9 TF.f63_1 TF.sz47 rfl ?_)
      exact awl_nil ⟨rfl, t2, _, rfl, h9, h10, h11, h12, f0, (fun h => rfl), f2, f3, f4, f5, f6, f7, f8, f9, p3, g0, g1⟩⟩⟩
    , ⟨_, rfl, fun B S hBi hdep hcl => by
      rintro ⟨t2, sl, rfl, h9, h10, h11, h12, f0, f1, f2, f3, f4, f5, f6, f7, f8, f9, p3, g0, g1⟩
      first | (refine r_loadAb 0 (f1 (hdep 1 rfl)) rfl TF.agg47 TF.sz47 rfl rfl ?_) | (refine r_loadA (f1 (hdep 1 rfl)) TF.agg47 TF.sz47 rfl rfl ?_)
      exact awl_nil ⟨rfl, t2, _, rfl, h9, h10, h11, h12, f0, f1, (fun h => rfl), f3, f4, f5, f6, f7, f8, f9, p3, g0, g1⟩⟩⟩
    , ⟨_, rfl, fun B S hBi hdep hcl => by
      rintro ⟨t2, sl, rfl, h9, h10, h11, h12, f0, f1, f2, f3, f4, f5, f6, f7, f8, f9, p3, g0, g1⟩
      refine r_call0 hq rfl rfl (.cons (.ev (f0 (hdep 0 rfl)) rfl) (.cons (.ev (f2 (hdep 2 rfl)) rfl) .nil)) (TDel_ok tc hgt.wf htn ac.k) rfl TF.en21 rfl (fun r hr => ?_)
      obtain ⟨tq, htq, rfl⟩ := hr
      have hgq := good_del hgt htq
      exact awl_nil ⟨rfl, tq, _, rfl, h9, h10, h11, h12, f0, f1, f2, (fun h => rfl), f4, f5, f6, f7, (fun h => absurd (hcl 8 3 h rfl) (by rw [hBi]; decide)), f9, (fun _ => hgq), g0, g1⟩⟩⟩
    , ⟨_, rfl, fun B S hBi hdep hcl => by
      rintro ⟨t2, sl, rfl, h9, h10, h11, h12, f0, f1, f2, f3, f4, f5, f6, f7, f8, f9, p3, g0, g1⟩
      refine r_move (g1 (by cases h : B 9 with | false => rfl | true => exact absurd (hcl 9 4 h rfl) (by rw [hBi]; decide))) rfl ?_
      exact awl_nil ⟨rfl, t2, _, rfl, h9, h10, h11, h12, f0, f1, f2, f3, (fun h => rfl), f5, f6, f7, f8, f9, p3, g0, g1⟩⟩⟩
    , ⟨_, rfl, fun B S hBi hdep hcl => by
      rintro ⟨t2, sl, rfl, h9, h10, h11, h12, f0, f1, f2, f3, f4, f5, f6, f7, f8, f9, p3, g0, g1⟩
      first | (refine r_fieldpt h9 TF.f63_1 TF.sz47 rfl ?_) | (refine r_fieldcp h9 TF.f63_1 TF.sz47 rfl ?_) | (refine r_fieldb h9 TF.f63_1 TF.sz47 rfl ?_)
      exact awl_nil ⟨rfl, t2, _, rfl, h9, h10, h11, h12, f0, f1, f2, f3, f4, (fun h => rfl), f6, f7, f8, f9, p3, g0, g1⟩⟩⟩
    , ⟨_, rfl, fun B S hBi hdep hcl => by
      rintro ⟨t2, sl, rfl, h9, h10, h11, h12, f0, f1, f2, f3, f4, f5, f6, f7, f8, f9, p3, g0, g1⟩
      first | (refine r_loadAb 0 (f5 (hdep 5 rfl)) rfl TF.agg47 TF.sz47 rfl rfl ?_) | (refine r_loadA (f5 (hdep 5 rfl)) TF.agg47 TF.sz47 rfl rfl ?_)
      exact awl_nil ⟨rfl, t2, _, rfl, h9, h10, h11, h12, f0, f1, f2, f3, f4, f5, (fun h => rfl), f7, f8, f9, p3, g0, g1⟩⟩⟩
    , ⟨_, rfl, fun B S hBi hdep hcl => by
      rintro ⟨t2, sl, rfl, h9, h10, h11, h12, f0, f1, f2, f3, f4, f5, f6, f7, f8, f9, p3, g0, g1⟩
      refine r_call0 hq rfl rfl (.cons (.ev (f4 (hdep 4 rfl)) rfl) (.cons (.ev (f6 (hdep 6 rfl)) rfl) .nil)) (refDel_ok (refPlay x (l.take j)) hxl ac.k) rfl TF.en32 rfl (fun r hr => ?_)
      obtain rfl := hr
      exact awl_nil ⟨rfl, t2, _, rfl, h9, h10, h11, h12, f0, f1, f2, f3, f4, f5, f6, (fun h => rfl), f8, f9, p3, g0, g1⟩⟩⟩
    , ⟨_, rfl, fun B S hBi hdep hcl => by
      rintro ⟨t2, sl, rfl, h9, h10, h11, h12, f0, f1, f2, f3, f4, f5, f6, f7, f8, f9, p3, g0, g1⟩
      refine r_assign (f3 (hdep 3 rfl)) rfl ?_
      exact awl_nil ⟨rfl, t2, _, rfl, h9, h10, h11, h12, f0, f1, f2, f3, f4, f5, f6, f7, (fun h => rfl), f9, p3, (fun h => by cases (show true = false from h)), g1⟩⟩⟩
    , ⟨_, rfl, fun B S hBi hdep hcl => by
      rintro ⟨t2, sl, rfl, h9, h10, h11, h12, f0, f1, f2, f3, f4, f5, f6, f7, f8, f9, p3, g0, g1⟩
      refine r_assign (f7 (hdep 7 rfl)) rfl ?_
      exact awl_nil ⟨rfl, t2, _, rfl, h9, h10, h11, h12, f0, f1, f2, f3, f4, f5, f6, f7, f8, (fun h => rfl), p3, g0, (fun h => by cases (show true = false from h))⟩⟩⟩
    (fun B S hall => by
     rintro ⟨t2, sl, rfl, h9, h10, h11, h12, f0, f1, f2, f3, f4, f5, f6, f7, f8, f9, p3, g0, g1⟩
     have hg2 := p3 (hall 3 (by decide))
     refine x_block ?_
     refine x_then ?_
     refine awp_weaken (S' := ⟨41, [(9, .a (.v (.pointer (some ⟨b9, 0, none⟩)))), (10, .a (.sl 6 (l.map Ac.cs))), (11, .a (.v (.int .i64 (((l.map Ac.cs).length : Nat))))), (12, .a (.v (.int .i64 ((j : Int))))), (0, .a (encT t2)), (1, .a (.sl 5 ((refDel (refPlay x (l.take j)) ac.k).map itC)))], [⟨b9, true, .box ac.cs⟩]⟩) ⟨rfl, (Slots.cons h9 (.refl _) (Slots.cons h10 (.refl _) (Slots.cons h11 (.refl _) (Slots.cons h12 (.refl _) (Slots.cons (f8 (hall 8 (by decide))) (.refl _) (Slots.cons (f9 (hall 9 (by decide))) (.refl _) Slots.nil)))))), (List.Sublist.refl _)⟩ ?_
     refine awp_region ?_
     refine r_ari _ rfl rfl rfl (wrap_id (by first | omega | (simp; omega))) rfl ?_
     refine r_move rfl rfl ?_
     refine awl_nil ?_
     refine x_then ?_
     refine ⟨l.length - (j + 1), ⟨41, [(0, .a (encT (t2))), (1, .a (.sl 5 ((refPlay x (l.take (j + 1))).map itC))), (10, .a (.sl 6 (l.map Ac.cs))), (11, .a (.v (.int .i64 (((l.map Ac.cs).length : Nat))))), (12, .a (.v (.int .i64 (((j + 1) : Int)))))], []⟩, ⟨rfl, (Slots.cons rfl (by first | exact .refl _ | exact .nilOwn _ _ | exact .nilSl _ | exact .ownSl _ _ _  | exact SV.le.ownEq (by rw [refPlay_snoc hac, hstep]) | exact SV.le.of_eq (by rw [refPlay_snoc hac, hstep])) (Slots.cons rfl (by first | exact .refl _ | exact .nilOwn _ _ | exact .nilSl _ | exact .ownSl _ _ _  | exact SV.le.ownEq (by rw [refPlay_snoc hac, hstep]) | exact SV.le.of_eq (by rw [refPlay_snoc hac, hstep])) (Slots.cons rfl (by first | exact .refl _ | exact .nilOwn _ _ | exact .nilSl _ | exact .ownSl _ _ _  | exact SV.le.ownEq (by rw [refPlay_snoc hac, hstep]) | exact SV.le.of_eq (by rw [refPlay_snoc hac, hstep])) (Slots.cons rfl (by first | exact .refl _ | exact .nilOwn _ _ | exact .nilSl _ | exact .ownSl _ _ _  | exact SV.le.ownEq (by rw [refPlay_snoc hac, hstep]) | exact SV.le.of_eq (by rw [refPlay_snoc hac, hstep])) (Slots.cons rfl (by first | exact .refl _ | exact .nilOwn _ _ | exact .nilSl _ | exact .ownSl _ _ _  | exact SV.le.ownEq (by rw [refPlay_snoc hac, hstep]) | exact SV.le.of_eq (by rw [refPlay_snoc hac, hstep])) Slots.nil))))), (List.nil_sublist _)⟩, (by omega), ⟨j + 1, t2, rfl, rfl, (by omega), (by rw [refPlay_snoc hac, hstep]; exact hg2)⟩⟩)
  ·
   have hdl : ac.del = false := hc1
   have hstep : refStep (refPlay x (l.take j)) ac = refPut (refPlay x (l.take j)) ac.k ac.v := by unfold refStep; rw [if_neg (by rw [hdl]; decide)]
   refine awp_any (fun B S => ∃ t2 : TreeV, ∃ sl : List (Nat × SV), S = ⟨41, sl, [⟨b9, true, .box ac.cs⟩]⟩ ∧ find 9 sl = some (.a (.v (.pointer (some ⟨b9, 0, none⟩)))) ∧ find 10 sl = some (.a (.sl 6 (l.map Ac.cs))) ∧ find 11 sl = some (.a (.v (.int .i64 (((l.map Ac.cs).length : Nat))))) ∧ find 12 sl = some (.a (.v (.int .i64 ((j : Int))))) ∧ (B 0 = true → find 26 sl = some (.a (encT tc))) ∧ (B 1 = true → find 27 sl = some (.a (.v (.pointer (some ⟨b9, 0 + 1, none⟩))))) ∧ (B 2 = true → find 28 sl = some (.a (spA ac.k))) ∧ (B 3 = true → find 29 sl = some (.a (.v (.pointer (some ⟨b9, 0 + 5, none⟩))))) ∧ (B 4 = true → find 30 sl = some (.a (.v (.int .u64 (ac.v))))) ∧ (B 5 = true → find 31 sl = some (.a (encT t2))) ∧ (B 6 = true → find 32 sl = some (.a (.sl 5 ((refPlay x (l.take j)).map itC)))) ∧ (B 7 = true → find 33 sl = some (.a (.v (.pointer (some ⟨b9, 0 + 1, none⟩))))) ∧ (B 8 = true → find 34 sl = some (.a (spA ac.k))) ∧ (B 9 = true → find 35 sl = some (.a (.v (.pointer (some ⟨b9, 0 + 5, none⟩))))) ∧ (B 10 = true → find 36 sl = some (.a (.v (.int .u64 (ac.v))))) ∧ (B 11 = true → find 37 sl = some (.a (.sl 5 ((refPut (refPlay x (l.take j)) ac.k ac.v).map itC)))) ∧ (B 12 = true → find 0 sl = some (.a (encT t2))) ∧ (B 13 = true → find 1 sl = some (.a (.sl 5 ((refPut (refPlay x (l.take j)) ac.k ac.v).map itC)))) ∧ (B 5 = true → Good t2 (refPut (refPlay x (l.take j)) ac.k ac.v)) ∧ (B 12 = false → find 0 sl = some (.a (encT tc))) ∧ (B 13 = false → find 1 sl = some (.a (.sl 5 ((refPlay x (l.take j)).map itC))))) TF.mixed rfl ⟨none, _, rfl, rfl, rfl, rfl, rfl, (fun h => by cases h), (fun h => by cases h), (fun h => by cases h), (fun h => by cases h), (fun h => by cases h), (fun h => by cases h), (fun h => by cases h), (fun h => by cases h), (fun h => by cases h), (fun h => by cases h), (fun h => by cases h), (fun h => by cases h), (fun h => by cases h), (fun h => by cases h), (fun h => by cases h), (fun _ => rfl), (fun _ => rfl)⟩ ⟨⟨⟨⟨⟨⟨⟨⟨⟨⟨⟨⟨⟨⟨trivial
    , ⟨_, rfl, fun B S hBi hdep hcl => by
      rintro ⟨t2, sl, rfl, h9, h10, h11, h12, f0, f1, f2, f3, f4, f5, f6, f7, f8, f9, f10, f11, f12, f13, p5, g0, g1⟩
      refine r_move (g0 (by cases h : B 12 with | false => rfl | true => exact absurd (hcl 12 0 h rfl) (by rw [hBi]; decide))) rfl ?_
      exact awl_nil ⟨rfl, t2, _, rfl, h9, h10, h11, h12, (fun h => rfl), f1, f2, f3, f4, f5, f6, f7, f8, f9, f10, f11, f12, f13, p5, g0, g1⟩⟩⟩
    , ⟨_, rfl, fun B S hBi hdep hcl => by
      rintro ⟨t2, sl, rfl, h9, h10, h11, h12, f0, f1, f2, f3, f4, f5, f6, f7, f8, f9, f10, f11, f12, f13, p5, g0, g1⟩
      first | (refine r_fieldpt h9 TF.f63_1 TF.sz47 rfl ?_) | (refine r_fieldcp h9 TF.f63_1 TF.sz47 rfl ?_) | (refine r_fieldb h9 TF.f63_1 TF.sz47 rfl ?_)
      exact awl_nil ⟨rfl, t2, _, rfl, h9, h10, h11, h12, f0, (fun h => rfl), f2, f3, f4, f5, f6, f7, f8, f9, f10, f11, f12, f13, p5, g0, g1⟩⟩⟩
    , ⟨_, rfl, fun B S hBi hdep hcl => by
      rintro ⟨t2, sl, rfl, h9, h10, h11, h12, f0, f1, f2, f3, f4, f5, f6, f7, f8, f9, f10, f11, f12, f13, p5, g0, g1⟩
      first | (refine r_loadAb 0 (f1 (hdep 1 rfl)) rfl TF.agg47 TF.sz47 rfl rfl ?_) | (refine r_loadA (f1 (hdep 1 rfl)) TF.agg47 TF.sz47 rfl rfl ?_)
      exact awl_nil ⟨rfl, t2, _, rfl, h9, h10, h11, h12, f0, f1, (fun h => rfl), f3, f4, f5, f6, f7, f8, f9, f10, f11, f12, f13, p5, g0, g1⟩⟩⟩
    , ⟨_, rfl, fun B S hBi hdep hcl => by
      rintro ⟨t2, sl, rfl, h9, h10, h11, h12, f0, f1, f2, f3, f4, f5, f6, f7, f8, f9, f10, f11, f12, f13, p5, g0, g1⟩
      first | (refine r_fieldpt h9 TF.f63_2 TF.sz45 rfl ?_) | (refine r_fieldcp h9 TF.f63_2 TF.sz45 rfl ?_) | (refine r_fieldb h9 TF.f63_2 TF.sz45 rfl ?_)
      exact awl_nil ⟨rfl, t2, _, rfl, h9, h10, h11, h12, f0, f1, f2, (fun h => rfl), f4, f5, f6, f7, f8, f9, f10, f11, f12, f13, p5, g0, g1⟩⟩⟩
    , ⟨_, rfl, fun B S hBi hdep hcl => by
      rintro ⟨t2, sl, rfl, h9, h10, h11, h12, f0, f1, f2, f3, f4, f5, f6, f7, f8, f9, f10, f11, f12, f13, p5, g0, g1⟩
      first | (refine r_load1b 0 (f3 (hdep 3 rfl)) rfl rfl TF.agg45 rfl ?_) | (refine r_load1 (f3 (hdep 3 rfl)) TF.agg45 rfl ?_)
      exact awl_nil ⟨rfl, t2, _, rfl, h9, h10, h11, h12, f0, f1, f2, f3, (fun h => rfl), f5, f6, f7, f8, f9, f10, f11, f12, f13, p5, g0, g1⟩⟩⟩
    , ⟨_, rfl, fun B S hBi hdep hcl => by
      rintro ⟨t2, sl, rfl, h9, h10, h11, h12, f0, f1, f2, f3, f4, f5, f6, f7, f8, f9, f10, f11, f12, f13, p5, g0, g1⟩
      refine r_call0 hq rfl rfl (.cons (.ev (f0 (hdep 0 rfl)) rfl) (.cons (.ev (f2 (hdep 2 rfl)) rfl) (.cons (.ev (f4 (hdep 4 rfl)) rfl) .nil))) (TPut_ok tc hgt.wf htn ac.k ac.v) rfl TF.en23 rfl (fun r hr => ?_)
      obtain ⟨tq, htq, rfl⟩ := hr
      have hgq := good_put hgt htq
      exact awl_nil ⟨rfl, tq, _, rfl, h9, h10, h11, h12, f0, f1, f2, f3, f4, (fun h => rfl), f6, f7, f8, f9, f10, f11, (fun h => absurd (hcl 12 5 h rfl) (by rw [hBi]; decide)), f13, (fun _ => hgq), g0, g1⟩⟩⟩
    , ⟨_, rfl, fun B S hBi hdep hcl => by
      rintro ⟨t2, sl, rfl, h9, h10, h11, h12, f0, f1, f2, f3, f4, f5, f6, f7, f8, f9, f10, f11, f12, f13, p5, g0, g1⟩
      refine r_move (g1 (by cases h : B 13 with | false => rfl | true => exact absurd (hcl 13 6 h rfl) (by rw [hBi]; decide))) rfl ?_
      exact awl_nil ⟨rfl, t2, _, rfl, h9, h10, h11, h12, f0, f1, f2, f3, f4, f5, (fun h => rfl), f7, f8, f9, f10, f11, f12, f13, p5, g0, g1⟩⟩⟩
    , ⟨_, rfl, fun B S hBi hdep hcl => by
      rintro ⟨t2, sl, rfl, h9, h10, h11, h12, f0, f1, f2, f3, f4, f5, f6, f7, f8, f9, f10, f11, f12, f13, p5, g0, g1⟩
      first | (refine r_fieldpt h9 TF.f63_1 TF.sz47 rfl ?_) | (refine r_fieldcp h9 TF.f63_1 TF.sz47 rfl ?_) | (refine r_fieldb h9 TF.f63_1 TF.sz47 rfl ?_)
      exact awl_nil ⟨rfl, t2, _, rfl, h9, h10, h11, h12, f0, f1, f2, f3, f4, f5, f6, (fun h => rfl), f8, f9, f10, f11, f12, f13, p5, g0, g1⟩⟩⟩
    , ⟨_, rfl, fun B S hBi hdep hcl => by
      rintro ⟨t2, sl, rfl, h9, h10, h11, h12, f0, f1, f2, f3, f4, f5, f6, f7, f8, f9, f10, f11, f12, f13, p5, g0, g1⟩
      first | (refine r_loadAb 0 (f7 (hdep 7 rfl)) rfl TF.agg47 TF.sz47 rfl rfl ?_) | (refine r_loadA (f7 (hdep 7 rfl)) TF.agg47 TF.sz47 rfl rfl ?_)
      exact awl_nil ⟨rfl, t2, _, rfl, h9, h10, h11, h12, f0, f1, f2, f3, f4, f5, f6, f7, (fun h => rfl), f9, f10, f11, f12, f13, p5, g0, g1⟩⟩⟩
    , ⟨_, rfl, fun B S hBi hdep hcl => by
      rintro ⟨t2, sl, rfl, h9, h10, h11, h12, f0, f1, f2, f3, f4, f5, f6, f7, f8, f9, f10, f11, f12, f13, p5, g0, g1⟩
      first | (refine r_fieldpt h9 TF.f63_2 TF.sz45 rfl ?_) | (refine r_fieldcp h9 TF.f63_2 TF.sz45 rfl ?_) | (refine r_fieldb h9 TF.f63_2 TF.sz45 rfl ?_)
      exact awl_nil ⟨rfl, t2, _, rfl, h9, h10, h11, h12, f0, f1, f2, f3, f4, f5, f6, f7, f8, (fun h => rfl), f10, f11, f12, f13, p5, g0, g1⟩⟩⟩
    , ⟨_, rfl, fun B S hBi hdep hcl => by
      rintro ⟨t2, sl, rfl, h9, h10, h11, h12, f0, f1, f2, f3, f4, f5, f6, f7, f8, f9, f10, f11, f12, f13, p5, g0, g1⟩
      first | (refine r_load1b 0 (f9 (hdep 9 rfl)) rfl rfl TF.agg45 rfl ?_) | (refine r_load1 (f9 (hdep 9 rfl)) TF.agg45 rfl ?_)
      exact awl_nil ⟨rfl, t2, _, rfl, h9, h10, h11, h12, f0, f1, f2, f3, f4, f5, f6, f7, f8, f9, (fun h => rfl), f11, f12, f13, p5, g0, g1⟩⟩⟩
    , ⟨_, rfl, fun B S hBi hdep hcl => by
      rintro ⟨t2, sl, rfl, h9, h10, h11, h12, f0, f1, f2, f3, f4, f5, f6, f7, f8, f9, f10, f11, f12, f13, p5, g0, g1⟩
      refine r_call0 hq rfl rfl (.cons (.ev (f6 (hdep 6 rfl)) rfl) (.cons (.ev (f8 (hdep 8 rfl)) rfl) (.cons (.ev (f10 (hdep 10 rfl)) rfl) .nil))) (refPut_ok (refPlay x (l.take j)) hxl ac.k ac.v) rfl TF.en33 rfl (fun r hr => ?_)
      obtain rfl := hr
      exact awl_nil ⟨rfl, t2, _, rfl, h9, h10, h11, h12, f0, f1, f2, f3, f4, f5, f6, f7, f8, f9, f10, (fun h => rfl), f12, f13, p5, g0, g1⟩⟩⟩
    , ⟨_, rfl, fun B S hBi hdep hcl => by
      rintro ⟨t2, sl, rfl, h9, h10, h11, h12, f0, f1, f2, f3, f4, f5, f6, f7, f8, f9, f10, f11, f12, f13, p5, g0, g1⟩
      refine r_assign (f5 (hdep 5 rfl)) rfl ?_
      exact awl_nil ⟨rfl, t2, _, rfl, h9, h10, h11, h12, f0, f1, f2, f3, f4, f5, f6, f7, f8, f9, f10, f11, (fun h => rfl), f13, p5, (fun h => by cases (show true = false from h)), g1⟩⟩⟩
    , ⟨_, rfl, fun B S hBi hdep hcl => by
      rintro ⟨t2, sl, rfl, h9, h10, h11, h12, f0, f1, f2, f3, f4, f5, f6, f7, f8, f9, f10, f11, f12, f13, p5, g0, g1⟩
      refine r_assign (f11 (hdep 11 rfl)) rfl ?_
      exact awl_nil ⟨rfl, t2, _, rfl, h9, h10, h11, h12, f0, f1, f2, f3, f4, f5, f6, f7, f8, f9, f10, f11, f12, (fun h => rfl), p5, g0, (fun h => by cases (show true = false from h))⟩⟩⟩
    (fun B S hall => by
     rintro ⟨t2, sl, rfl, h9, h10, h11, h12, f0, f1, f2, f3, f4, f5, f6, f7, f8, f9, f10, f11, f12, f13, p5, g0, g1⟩
     have hg2 := p5 (hall 5 (by decide))
     refine x_block ?_
     refine x_then ?_
     refine awp_weaken (S' := ⟨41, [(9, .a (.v (.pointer (some ⟨b9, 0, none⟩)))), (10, .a (.sl 6 (l.map Ac.cs))), (11, .a (.v (.int .i64 (((l.map Ac.cs).length : Nat))))), (12, .a (.v (.int .i64 ((j : Int))))), (0, .a (encT t2)), (1, .a (.sl 5 ((refPut (refPlay x (l.take j)) ac.k ac.v).map itC)))], [⟨b9, true, .box ac.cs⟩]⟩) ⟨rfl, (Slots.cons h9 (.refl _) (Slots.cons h10 (.refl _) (Slots.cons h11 (.refl _) (Slots.cons h12 (.refl _) (Slots.cons (f12 (hall 12 (by decide))) (.refl _) (Slots.cons (f13 (hall 13 (by decide))) (.refl _) Slots.nil)))))), (List.Sublist.refl _)⟩ ?_
     refine awp_region ?_
     refine r_ari _ rfl rfl rfl (wrap_id (by first | omega | (simp; omega))) rfl ?_
     refine r_move rfl rfl ?_
     refine awl_nil ?_
     refine x_then ?_
     refine ⟨l.length - (j + 1), ⟨41, [(0, .a (encT (t2))), (1, .a (.sl 5 ((refPlay x (l.take (j + 1))).map itC))), (10, .a (.sl 6 (l.map Ac.cs))), (11, .a (.v (.int .i64 (((l.map Ac.cs).length : Nat))))), (12, .a (.v (.int .i64 (((j + 1) : Int)))))], []⟩, ⟨rfl, (Slots.cons rfl (by first | exact .refl _ | exact .nilOwn _ _ | exact .nilSl _ | exact .ownSl _ _ _  | exact SV.le.ownEq (by rw [refPlay_snoc hac, hstep]) | exact SV.le.of_eq (by rw [refPlay_snoc hac, hstep])) (Slots.cons rfl (by first | exact .refl _ | exact .nilOwn _ _ | exact .nilSl _ | exact .ownSl _ _ _  | exact SV.le.ownEq (by rw [refPlay_snoc hac, hstep]) | exact SV.le.of_eq (by rw [refPlay_snoc hac, hstep])) (Slots.cons rfl (by first | exact .refl _ | exact .nilOwn _ _ | exact .nilSl _ | exact .ownSl _ _ _  | exact SV.le.ownEq (by rw [refPlay_snoc hac, hstep]) | exact SV.le.of_eq (by rw [refPlay_snoc hac, hstep])) (Slots.cons rfl (by first | exact .refl _ | exact .nilOwn _ _ | exact .nilSl _ | exact .ownSl _ _ _  | exact SV.le.ownEq (by rw [refPlay_snoc hac, hstep]) | exact SV.le.of_eq (by rw [refPlay_snoc hac, hstep])) (Slots.cons rfl (by first | exact .refl _ | exact .nilOwn _ _ | exact .nilSl _ | exact .ownSl _ _ _  | exact SV.le.ownEq (by rw [refPlay_snoc hac, hstep]) | exact SV.le.of_eq (by rw [refPlay_snoc hac, hstep])) Slots.nil))))), (List.nil_sublist _)⟩, (by omega), ⟨j + 1, t2, rfl, rfl, (by omega), (by rw [refPlay_snoc hac, hstep]; exact hg2)⟩⟩)
 ·
  have hge : l.length ≤ j := by have := of_decide_eq_false hc0; simp at this; omega
  obtain rfl : j = l.length := by omega
  rw [List.take_length] at hgt ⊢
  refine awp_exit ?_
  refine x_thenE ?_
  refine x_thenE ?_
  refine x_blockE ?_
  refine x_then ?_
  refine awp_seq ?_
  refine awp_region ?_
  refine r_move rfl rfl ?_
  refine r_move rfl rfl ?_
  refine r_assign rfl rfl ?_
  refine r_assign rfl rfl ?_
  refine awl_nil ?_
  refine x_then ?_
  refine awp_ret ?_
  exact ⟨(.inl rfl), _, [], (.two (by first | exact .mk rfl rfl | exact .nil rfl) (by first | exact .mk rfl rfl | exact .nil rfl)), ⟨rfl, tc, hgt, rfl⟩, (List.nil_sublist _), (by simp)⟩
end Go.Proofs.Ytljgdbgcleibjaa.A
namespace Go.Proofs.Ytljgdbgcleibjaa.A
open Go Go.RowKit
set_option linter.unusedVariables false
set_option linter.unusedSimpArgs false
set_option maxRecDepth 100000
theorem TF.pl47 : placesT Try.prog 47 = some [(0, 3), (3, 1)] := by kernel_rfl
theorem TF.en13 : entersT Try.prog 13 := enters_of Try.func13 (by kernel_rfl) (by kernel_rfl)
theorem TF.un41 : Try.prog.underlying 41 = some (.func #[84] #[] false) := by kernel_rfl
theorem TF.en19 : entersT Try.prog 19 := enters_of Try.func19 (by kernel_rfl) (by kernel_rfl)
theorem wk_lists : refPut [] (⟨0, 0, 0, 3⟩ : Sp) 3 = [((⟨0, 0, 0, 3⟩ : Sp), 3)] ∧ refPut [((⟨0, 0, 0, 3⟩ : Sp), 3)] (⟨0, 0, 0, 7⟩ : Sp) 7 = [((⟨0, 0, 0, 3⟩ : Sp), 3), ((⟨0, 0, 0, 7⟩ : Sp), 7)] ∧ refBtw [((⟨0, 0, 0, 3⟩ : Sp), 3)] [((⟨0, 0, 0, 3⟩ : Sp), 3), ((⟨0, 0, 0, 7⟩ : Sp), 7)] = [((⟨0, 0, 0, 7⟩ : Sp), true)] := by
  refine ⟨by decide, by decide, ?_⟩
  unfold refBtw
  simp [btwGo, mis, Sp.lt_iff]
set_option maxHeartbeats 1000000 in
theorem awake_ok : AC Try.prog 11 [] [] (fun r n => n = [] ∧ r = boolA true) := by
 refine ac_of_awp (rs := [0]) (nt := 46) Try.func11 rfl rfl rfl rfl (fun w0 C0 hq => ?_)
 refine awp_seq ?_
 refine awp_region ?_
 refine r_assign rfl rfl ?_
 refine awl_nil ?_
 refine x_then ?_
 refine awp_seq ?_
 refine awp_region ?_
 refine r_build (parts := [(1, .const ((Go.Value.int Go.IntKind.u64 7)))]) rfl TF.pl47 TF.zero47 rfl rfl rfl ?_
 refine r_alloc TF.zero47 rfl (fun b1 => ?_)
 refine r_store 0 rfl rfl rfl TF.sz47 rfl rfl rfl ?_
 refine awl_nil ?_
 refine x_then ?_
 refine awp_seq ?_
 refine awp_region ?_
 refine r_call0 hq rfl rfl .nil (New_ok) rfl TF.en13 rfl (fun r hr => ?_)
 obtain rfl := hr
 refine r_build (parts := [(1, .const ((Go.Value.int Go.IntKind.u64 3)))]) rfl TF.pl47 TF.zero47 rfl rfl rfl ?_
 refine r_call0 hq rfl rfl (.cons (.ev rfl rfl) (.cons (.ev rfl rfl) (.cons (.ev rfl rfl) .nil))) (TPut_ok (some (none, 0)) trivial ⟨by decide, by decide⟩ (⟨0, 0, 0, 3⟩ : Sp) 3) rfl TF.en23 rfl (fun r hr => ?_)
 obtain ⟨ta, hta, rfl⟩ := hr
 have hga := good_put good_new hta
 rw [wk_lists.1] at hga
 have hla : 0 ≤ lenT ta ∧ lenT ta ≤ 1000000 := good_len hga (by decide)
 refine r_assign rfl rfl ?_
 refine awl_nil ?_
 refine x_then ?_
 refine awp_seq ?_
 refine awp_region ?_
 refine r_alloc TF.zero3 rfl (fun b3 => ?_)
 refine r_alloc TF.zero4 rfl (fun b4 => ?_)
 first | (refine r_store 0 rfl rfl rfl TF.sz3 rfl rfl rfl ?_) | (refine r_store 1 rfl rfl rfl TF.sz3 rfl rfl rfl ?_) | (refine r_store 2 rfl rfl rfl TF.sz3 rfl rfl rfl ?_)
 first | (refine r_store 0 rfl rfl rfl TF.sz4 rfl rfl rfl ?_) | (refine r_store 1 rfl rfl rfl TF.sz4 rfl rfl rfl ?_) | (refine r_store 2 rfl rfl rfl TF.sz4 rfl rfl rfl ?_)
 refine awl_nil ?_
 refine x_then ?_
 refine awp_seq ?_
 refine awp_seq ?_
 refine awp_region ?_
 refine r_move rfl rfl ?_
 refine r_move rfl rfl ?_
 first | (refine r_loadAb 0 rfl rfl TF.agg47 TF.sz47 rfl rfl ?_) | (refine r_loadA rfl TF.agg47 TF.sz47 rfl rfl ?_) | (refine r_loadAb 1 rfl rfl TF.agg47 TF.sz47 rfl rfl ?_) | (refine r_loadAb 2 rfl rfl TF.agg47 TF.sz47 rfl rfl ?_)
 refine r_call0 hq rfl rfl (.cons (.ev rfl rfl) (.cons (.ev rfl rfl) (.cons (.ev rfl rfl) .nil))) (TPut_ok ta hga.wf hla (⟨0, 0, 0, 7⟩ : Sp) 7) rfl TF.en23 rfl (fun r hr => ?_)
 obtain ⟨tc, htc, rfl⟩ := hr
 refine r_call0 hq rfl rfl (.cons (.ev rfl rfl) (.cons (.ev rfl rfl) .nil)) (Between_ok ta tc) rfl TF.en20 rfl (fun r hr => ?_)
 obtain rfl := hr
 first | (refine r_fn_eq rfl TF.un41 rfl ?_) | (refine r_nofn_eq rfl TF.un41 rfl ?_)
 refine awl_nil ?_
 refine x_then ?_
 refine awp_cond rfl (fun hc0 => ?_) (fun hc0 => ?_)
 ·
  exfalso; cases hc0
 ·
  refine awp_skip ?_
  refine x_then ?_
  refine awp_seq ?_
  refine awp_seq ?_
  refine awp_region ?_
  refine r_move rfl rfl ?_
  refine r_move rfl rfl ?_
  first | (refine r_loadAb 0 rfl rfl TF.agg47 TF.sz47 rfl rfl ?_) | (refine r_loadA rfl TF.agg47 TF.sz47 rfl rfl ?_) | (refine r_loadAb 1 rfl rfl TF.agg47 TF.sz47 rfl rfl ?_) | (refine r_loadAb 2 rfl rfl TF.agg47 TF.sz47 rfl rfl ?_)
  refine r_call0 hq rfl rfl (.cons (.ev rfl rfl) (.cons (.ev rfl rfl) (.cons (.ev rfl rfl) .nil))) (TPut_ok ta hga.wf hla (⟨0, 0, 0, 7⟩ : Sp) 7) rfl TF.en23 rfl (fun r hr => ?_)
  obtain ⟨tb, htb, rfl⟩ := hr
  have hgb := good_put hga htb
  rw [wk_lists.2.1] at hgb
  refine r_call0 hq rfl rfl (.cons (.ev rfl rfl) (.cons (.ev rfl rfl) .nil)) (Between_ok ta tb) rfl TF.en20 rfl (fun r hr => ?_)
  obtain rfl := hr
  refine awl_nil ?_
  refine x_then ?_
  refine awp_block ?_
  refine awp_fact (φ := Coh ta tb) (fun C T a w hs => coh_of hga.wf hgb.wf (hs.slots 2 (.a (encT ta)) rfl) (hs.slots 20 (.a (encT tb)) rfl)) (fun hcoh => ?_)
  have hch : chg ta tb = [((⟨0, 0, 0, 7⟩ : Sp), true)] := by rw [chg_ref hcoh hga hgb]; exact wk_lists.2.2
  refine awp_rangeFuncS (fun pre wo => ∃ (n : Int) (c : Bool), ((pre.length = 0 ∧ n = 0 ∧ c = false) ∨ (pre.length = 1 ∧ n = 1 ∧ c = true)) ∧ wo = [⟨b4, true, .box [.v (.bool c)]⟩, ⟨b3, true, .box [.v (.int .i64 n)]⟩, ⟨b1, true, .box (⟨0, 0, 0, 7⟩ : Sp).cs⟩]) (fun _ _ _ => False) [(1, .a (.v (.pointer (some ⟨b1, 0, none⟩)))), (2, .a (encT ta)), (3, .a (.v (.pointer (some ⟨b3, 0, none⟩)))), (4, .a (.v (.pointer (some ⟨b4, 0, none⟩))))] [true, true, true] hq rfl (Between1_ok ta tb hga.wf hgb.wf (good_ids hga (by decide)) (good_ids hgb (by decide)) (two_keys hga hgb)) TF.en37 (fun pre x ⟨c, _, _, h⟩ => by subst h; rfl) rfl rfl rfl (by first | exact List.Sublist.refl _ | exact .cons_cons _ (.cons _ (.refl _)) | exact List.nil_sublist _ | exact .cons _ (.refl _) | exact .cons _ (.cons _ (.refl _)) | exact .cons _ (.cons _ (.cons _ (.refl _))) | exact .cons _ (.cons _ (.cons _ (.cons _ (.refl _)))) | exact .cons_cons _ (List.nil_sublist _)) (Slots.cons rfl (by first | exact .refl _ | exact .nilOwn _ _ | exact .nilSl _ | exact .ownSl _ _ _  | exact SV.le.of_eq (by simp)) (Slots.cons rfl (by first | exact .refl _ | exact .nilOwn _ _ | exact .nilSl _ | exact .ownSl _ _ _  | exact SV.le.of_eq (by simp)) (Slots.cons rfl (by first | exact .refl _ | exact .nilOwn _ _ | exact .nilSl _ | exact .ownSl _ _ _  | exact SV.le.of_eq (by simp)) (Slots.cons rfl (by first | exact .refl _ | exact .nilOwn _ _ | exact .nilSl _ | exact .ownSl _ _ _  | exact SV.le.of_eq (by simp)) Slots.nil)))) rfl rfl ⟨0, false, .inl ⟨rfl, rfl, rfl⟩, rfl⟩ ?_ ?_ ?_
  ·
   intro lr pre x wo rec busy w0 C0 hq hj hax
   obtain ⟨n, c, hnc, rfl⟩ := hj
   obtain ⟨y, hyt, hpre, rfl⟩ := hax
   rw [hch] at hyt
   have hp0 : pre.length = 0 := by have := (List.getElem?_eq_some_iff.1 hyt).1; simp at this; simp [this]
   rw [hp0] at hyt
   cases hyt
   obtain ⟨rfl, rfl⟩ : n = 0 ∧ c = false := by rcases hnc with ⟨_, h1, h2⟩ | ⟨h, _⟩; exact ⟨h1, h2⟩; omega
   refine awpi_seq ?_
   refine awpi_region ?_
   refine awli_op (fun c h => (by cases h)) ?_
   refine r_alloc TF.zero47 rfl (fun b5 => ?_)
   refine awl_nil ⟨rfl, ?_⟩
   refine awli_op (fun c h => (by cases h)) ?_
   first | (refine r_store 0 rfl rfl rfl TF.sz47 rfl rfl rfl ?_) | (refine r_store 1 rfl rfl rfl TF.sz47 rfl rfl rfl ?_) | (refine r_store 2 rfl rfl rfl TF.sz47 rfl rfl rfl ?_) | (refine r_store 3 rfl rfl rfl TF.sz47 rfl rfl rfl ?_) | (refine r_store 4 rfl rfl rfl TF.sz47 rfl rfl rfl ?_)
   refine awl_nil ⟨rfl, ?_⟩
   refine awli_nil ?_
   refine x_then ?_
   refine awpi_region ?_
   refine awli_op (fun c h => (by cases h)) ?_
   refine r_assign rfl rfl ?_
   refine awl_nil ⟨rfl, ?_⟩
   refine awli_nil ?_
   refine ⟨rfl, 4, rfl, ?_⟩
   refine awpi_block ?_
   refine awpi_seq ?_
   refine awpi_seq ?_
   refine awpi_region ?_
   refine awli_op (fun c h => (by cases h)) ?_
   first | (refine r_loadAb 0 rfl rfl TF.agg47 TF.sz47 rfl rfl ?_) | (refine r_loadA rfl TF.agg47 TF.sz47 rfl rfl ?_) | (refine r_loadAb 1 rfl rfl TF.agg47 TF.sz47 rfl rfl ?_) | (refine r_loadAb 2 rfl rfl TF.agg47 TF.sz47 rfl rfl ?_) | (refine r_loadAb 3 rfl rfl TF.agg47 TF.sz47 rfl rfl ?_) | (refine r_loadAb 4 rfl rfl TF.agg47 TF.sz47 rfl rfl ?_)
   refine awl_nil ⟨rfl, ?_⟩
   refine awli_op (fun c h => (by cases h)) ?_
   first | (refine r_loadAb 0 rfl rfl TF.agg47 TF.sz47 rfl rfl ?_) | (refine r_loadA rfl TF.agg47 TF.sz47 rfl rfl ?_) | (refine r_loadAb 1 rfl rfl TF.agg47 TF.sz47 rfl rfl ?_) | (refine r_loadAb 2 rfl rfl TF.agg47 TF.sz47 rfl rfl ?_) | (refine r_loadAb 3 rfl rfl TF.agg47 TF.sz47 rfl rfl ?_) | (refine r_loadAb 4 rfl rfl TF.agg47 TF.sz47 rfl rfl ?_)
   refine awl_nil ⟨rfl, ?_⟩
   refine awli_op (fun c h => (by cases h)) ?_
   refine r_feq rfl rfl flat47 (isVal_sp (⟨0, 0, 0, 7⟩ : Sp)) (isVal_sp (⟨0, 0, 0, 7⟩ : Sp)) (Sp.kn _) (Sp.kn _) true (by simp) rfl ?_
   refine awl_nil ⟨rfl, ?_⟩
   refine awli_nil ?_
   refine x_then ?_
   refine awpi_cond rfl (fun hc1 => ?_) (fun hc1 => ?_)
   ·
    skip
    refine awpi_region ?_
    refine awli_op (fun c h => (by cases h)) ?_
    refine r_move rfl rfl ?_
    refine awl_nil ⟨rfl, ?_⟩
    refine awli_op (fun c h => (by cases h)) ?_
    first | (refine r_store 0 rfl rfl rfl TF.sz4 rfl rfl rfl ?_) | (refine r_store 1 rfl rfl rfl TF.sz4 rfl rfl rfl ?_) | (refine r_store 2 rfl rfl rfl TF.sz4 rfl rfl rfl ?_) | (refine r_store 3 rfl rfl rfl TF.sz4 rfl rfl rfl ?_) | (refine r_store 4 rfl rfl rfl TF.sz4 rfl rfl rfl ?_)
    refine awl_nil ⟨rfl, ?_⟩
    refine awli_nil ?_
    refine x_then ?_
    refine awpi_region ?_
    refine awli_op (fun c h => (by cases h)) ?_
    first | (refine r_load1b 0 rfl rfl rfl TF.agg3 rfl ?_) | (refine r_load1 rfl TF.agg3 rfl ?_) | (refine r_load1b 1 rfl rfl rfl TF.agg3 rfl ?_) | (refine r_load1b 2 rfl rfl rfl TF.agg3 rfl ?_) | (refine r_load1b 3 rfl rfl rfl TF.agg3 rfl ?_) | (refine r_load1b 4 rfl rfl rfl TF.agg3 rfl ?_)
    refine awl_nil ⟨rfl, ?_⟩
    refine awli_op (fun c h => (by cases h)) ?_
    refine r_ari 1 rfl rfl rfl rfl rfl ?_
    refine awl_nil ⟨rfl, ?_⟩
    refine awli_op (fun c h => (by cases h)) ?_
    first | (refine r_store 0 rfl rfl rfl TF.sz3 rfl rfl rfl ?_) | (refine r_store 1 rfl rfl rfl TF.sz3 rfl rfl rfl ?_) | (refine r_store 2 rfl rfl rfl TF.sz3 rfl rfl rfl ?_) | (refine r_store 3 rfl rfl rfl TF.sz3 rfl rfl rfl ?_) | (refine r_store 4 rfl rfl rfl TF.sz3 rfl rfl rfl ?_)
    refine awl_nil ⟨rfl, ?_⟩
    refine awli_nil ?_
    refine x_block ?_
    refine ⟨[⟨b4, true, .box [.v (.bool true)]⟩, ⟨b3, true, .box [.v (.int .i64 1)]⟩, ⟨b1, true, .box (⟨0, 0, 0, 7⟩ : Sp).cs⟩], .inl ⟨rfl, 1, true, .inr ⟨by simp [hp0], rfl, rfl⟩, rfl⟩, ?_, by simp⟩
    · exact .cons _ (List.Sublist.refl _)
   ·
    exfalso; cases hc1
  ·
   intro xs wo' hG hJ
   obtain ⟨n, c, hnc, rfl⟩ := hJ
   rw [hch] at hG
   obtain ⟨rfl, rfl⟩ : n = 1 ∧ c = true := by rcases hnc with ⟨h, _⟩ | ⟨_, h1, h2⟩; (rw [hG] at h; simp at h); exact ⟨h1, h2⟩
   refine x_block ?_
   refine x_then ?_
   refine awp_seq ?_
   refine awp_region ?_
   first | (refine r_load1b 0 rfl rfl rfl TF.agg3 rfl ?_) | (refine r_load1 rfl TF.agg3 rfl ?_) | (refine r_load1b 1 rfl rfl rfl TF.agg3 rfl ?_) | (refine r_load1b 2 rfl rfl rfl TF.agg3 rfl ?_)
   refine r_cmp rfl rfl rfl rfl ?_
   refine r_move rfl rfl ?_
   refine g_run rfl rfl (by decide) ?_
   first | (refine r_load1b 0 rfl rfl rfl TF.agg4 rfl ?_) | (refine r_load1 rfl TF.agg4 rfl ?_) | (refine r_load1b 1 rfl rfl rfl TF.agg4 rfl ?_) | (refine r_load1b 2 rfl rfl rfl TF.agg4 rfl ?_)
   refine r_pickT rfl (by decide) rfl rfl ?_
   refine r_move rfl rfl ?_
   refine g_run rfl rfl rfl ?_
   refine r_move rfl rfl ?_
   refine g_run rfl rfl rfl ?_
   refine r_move rfl rfl ?_
   refine g_run rfl rfl rfl ?_
   refine r_call0 hq rfl rfl (.cons (.ev rfl rfl) (.cons (.ev rfl rfl) .nil)) (Looked_ok ta ta hga.wf hga.wf (good_ids hga (by decide)) (good_ids hga (by decide))) rfl TF.en19 rfl (fun r hr => ?_)
   obtain rfl := hr
   rw [look_self ta]
   refine g_run rfl rfl rfl ?_
   refine r_cmp rfl rfl rfl rfl ?_
   refine r_pickT rfl rfl rfl rfl ?_
   refine r_move rfl rfl ?_
   refine g_run rfl rfl (by decide) ?_
   refine r_move rfl rfl ?_
   refine g_run rfl rfl (by decide) ?_
   refine r_call0 hq rfl rfl (.cons (.ev rfl rfl) (.cons (.ev rfl rfl) .nil)) (Looked_ok none ta trivial hga.wf (by decide) (good_ids hga (by decide))) rfl TF.en19 rfl (fun r hr => ?_)
   obtain rfl := hr
   rw [put_first hta]
   refine g_run rfl rfl (by decide) ?_
   refine r_cmp rfl rfl rfl rfl ?_
   refine r_pickT rfl (by decide) rfl rfl ?_
   refine r_assign rfl rfl ?_
   refine awl_nil ?_
   refine x_then ?_
   refine awp_ret ?_
   exact ⟨(.inl rfl), _, [], (.one (by first | exact .mk rfl rfl | exact .nil rfl)), ⟨rfl, rfl⟩, (List.nil_sublist _), (by simp)⟩
  ·
   intro c xs wo' hX
   exact hX.elim
end Go.Proofs.Ytljgdbgcleibjaa.A
namespace Go.Proofs.Ytljgdbgcleibjaa.A
open Go Go.RowKit
set_option linter.unusedVariables false
set_option linter.unusedSimpArgs false
set_option maxRecDepth 100000
theorem TF.en11 : entersT Try.prog 11 := enters_of Try.func11 (by kernel_rfl) (by kernel_rfl)
theorem TF.en12 : entersT Try.prog 12 := enters_of Try.func12 (by kernel_rfl) (by kernel_rfl)
theorem TF.en16 : entersT Try.prog 16 := enters_of Try.func16 (by kernel_rfl) (by kernel_rfl)
theorem TF.f55_0 : fieldT Try.prog 55 0 = some (0, 47) := by kernel_rfl
theorem TF.f55_1 : fieldT Try.prog 55 1 = some (4, 4) := by kernel_rfl
end Go.Proofs.Ytljgdbgcleibjaa.A
namespace Go.Proofs.Ytljgdbgcleibjaa.A
open Go Go.RowKit
set_option linter.unusedVariables false
set_option linter.unusedSimpArgs false
theorem put_mem {l : List It} (hs : Srt l) {k : Sp} {v : Int} {x : It} : x ∈ refPut l k v ↔ x = (k, v) ∨ (x ∈ l ∧ x.1 ≠ k) := by
  rw [(srt_put hs k v).1]
  unfold canP
  simp only [List.mem_append, List.mem_cons, List.mem_filter, decide_eq_true_eq]
  constructor
  · rintro (⟨h1, h2⟩ | h | ⟨h1, h2⟩)
    · exact .inr ⟨h1, Sp.ne h2⟩
    · exact .inl h
    · exact .inr ⟨h1, fun e => Sp.ne h2 e.symm⟩
  · rintro (h | ⟨h1, h2⟩)
    · exact .inr (.inl h)
    · by_cases h3 : x.1.lt k
      · exact .inl ⟨h1, h3⟩
      · by_cases h4 : k.lt x.1
        · exact .inr (.inr ⟨h1, h4⟩)
        · exact absurd (Sp.tri h3 h4) h2
theorem srt_put' {l : List It} (hs : Srt l) (k : Sp) (v : Int) : Srt (refPut l k v) := by rw [(srt_put hs k v).1]; exact srt_canP hs k v
theorem srt_del' {l : List It} (hs : Srt l) (k : Sp) : Srt (refDel l k) := hs.sublist List.filter_sublist
theorem btw_pw {X Z : List It} (hX : Srt X) (hZ : Srt Z) : (refBtw X Z).Pairwise ltC := btw_srt X Z X Z hX hZ
section
variable {P : Program} {w0 : Base} {C0 C : CS} {T : TS} {S S' : AState} {a : Act} {w : World} {ops : Array Oper} {rest : List Oper} {o : Oper} {Q : Exit → AState → Prop}
variable {t : Nat} {ty ty' : TypeId} {pos : String} {aft : Array Edge}
end
end Go.Proofs.Ytljgdbgcleibjaa.A
namespace Go.Proofs.Ytljgdbgcleibjaa.A
open Go Go.RowKit
set_option linter.unusedVariables false
set_option linter.unusedSimpArgs false
set_option maxRecDepth 100000
theorem TR.f47_0 : fieldT Try.prog 47 0 = some (0, 44) := by kernel_rfl
theorem TR.f47_1 : fieldT Try.prog 47 1 = some (3, 45) := by kernel_rfl
theorem TR.sz47 : szT Try.prog 47 = some 4 := by kernel_rfl
theorem TR.sz44 : szT Try.prog 44 = some 3 := by kernel_rfl
theorem TR.sz45 : szT Try.prog 45 = some 1 := by kernel_rfl
theorem TR.f44_0 : fieldT Try.prog 44 0 = some (0, 3) := by kernel_rfl
theorem TR.f44_1 : fieldT Try.prog 44 1 = some (1, 3) := by kernel_rfl
theorem TR.f44_2 : fieldT Try.prog 44 2 = some (2, 3) := by kernel_rfl
theorem TR.sz3 : szT Try.prog 3 = some 1 := by kernel_rfl
theorem TR.un3 : Try.prog.underlying 3 = some (.int .i64) := by kernel_rfl
theorem TR.un45 : Try.prog.underlying 45 = some (.int .u64) := by kernel_rfl
theorem TR.f63_0 : fieldT Try.prog 63 0 = some (0, 4) := by kernel_rfl
theorem TR.f63_1 : fieldT Try.prog 63 1 = some (1, 47) := by kernel_rfl
theorem TR.f63_2 : fieldT Try.prog 63 2 = some (5, 45) := by kernel_rfl
theorem TR.sz63 : szT Try.prog 63 = some 6 := by kernel_rfl
theorem TR.sz4 : szT Try.prog 4 = some 1 := by kernel_rfl
theorem TR.un4 : Try.prog.underlying 4 = some .bool := by kernel_rfl
theorem TR.sl22 : sliceT Try.prog 22 = some 63 := by kernel_rfl
theorem rd_spot : RD Try.prog 47 Sp.cs (fun _ => True) := RD.map (rd_struct2 TR.f47_0 TR.f47_1 TR.sz47 TR.sz44 TR.sz45 (rd_struct3 TR.f44_0 TR.f44_1 TR.f44_2 TR.sz44 TR.sz3 TR.sz3 TR.sz3 (rd_int TR.un3) (rd_int TR.un3) (rd_int TR.un3)) (rd_int TR.un45)) (fun a => (⟨a.1.1, a.1.2.1, a.1.2.2, a.2⟩ : Sp)) (fun a _ => ⟨trivial, rfl⟩)
theorem rd_act : RD Try.prog 63 Ac.cs (fun _ => True) := RD.map (rd_struct3 TR.f63_0 TR.f63_1 TR.f63_2 TR.sz63 TR.sz4 TR.sz47 TR.sz45 (rd_bool TR.un4) rd_spot (rd_int TR.un45)) (fun a => (⟨a.1, a.2.1, a.2.2⟩ : Ac)) (fun a _ => ⟨trivial, rfl⟩)
theorem rd_acts : RD Try.prog 22 (fun l : List Ac => [AV.sl 6 (l.map Ac.cs)]) (fun _ => True) := RD.map (rd_slice TR.sl22 TR.sz63 rd_act (fun _ => rfl)) id (fun a _ => ⟨trivial, rfl⟩)
end Go.Proofs.Ytljgdbgcleibjaa.A

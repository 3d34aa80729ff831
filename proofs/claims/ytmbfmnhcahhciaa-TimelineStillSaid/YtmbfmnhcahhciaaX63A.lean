/- Layer 63: walks of the disks, of what tells them, of moments that rise. -/
import Derived.Test.YtmbfmnhcahhciaaProg
import Derived.KernelRfl
import Derived.Test.YtmbfmnhcahhciaaX62D
import Derived.Test.YtmbfmnhcahhciaaX63S
namespace Go.Proofs.Ytmbfmnhcahhciaa.A
open Go Go.RowKit
set_option linter.unusedVariables false
set_option linter.unusedSimpArgs false
set_option maxRecDepth 100000

theorem TF.f38_1 : fieldT Try.prog 38 1 = some (1, 35) := by kernel_rfl
theorem TF.sz35 : szT Try.prog 35 = some 4 := by kernel_rfl
theorem TF.un35 : Try.prog.underlying 35 = some (.array 4 34) := by kernel_rfl
theorem TF.sz34 : szT Try.prog 34 = some 1 := by kernel_rfl
theorem TF.agg34 : aggT Try.prog 34 = some false := by kernel_rfl
theorem TF.un34 : Try.prog.underlying 34 = some (.int .i8) := by kernel_rfl
theorem TF.un3 : Try.prog.underlying 3 = some (.int .i64) := by kernel_rfl
theorem TF.f38_2 : fieldT Try.prog 38 2 = some (5, 36) := by kernel_rfl
theorem TF.sz36 : szT Try.prog 36 = some 4 := by kernel_rfl
theorem TF.un36 : Try.prog.underlying 36 = some (.array 4 5) := by kernel_rfl
theorem TF.agg5 : aggT Try.prog 5 = some false := by kernel_rfl
theorem TF.agg38 : aggT Try.prog 38 = some true := by kernel_rfl
theorem TF.sz38 : szT Try.prog 38 = some 9 := by kernel_rfl
theorem TF.en40 : entersT Try.prog 40 := enters_of Try.func40 (by kernel_rfl) (by kernel_rfl)
theorem TF.en21 : entersT Try.prog 21 := enters_of Try.func21 (by kernel_rfl) (by kernel_rfl)
theorem TF.en41 : entersT Try.prog 41 := enters_of Try.func41 (by kernel_rfl) (by kernel_rfl)
theorem TF.agg22 : aggT Try.prog 22 = some false := by kernel_rfl
theorem TF.sl22 : sliceT Try.prog 22 = some 30 := by kernel_rfl
theorem TF.agg23 : aggT Try.prog 23 = some false := by kernel_rfl
theorem TF.sl23 : sliceT Try.prog 23 = some 38 := by kernel_rfl
theorem TF.sz30 : szT Try.prog 30 = some 1 := by kernel_rfl
theorem TF.agg30 : aggT Try.prog 30 = some false := by kernel_rfl
theorem TF.en18 : entersT Try.prog 18 := enters_of Try.func18 (by kernel_rfl) (by kernel_rfl)
theorem TF.f38_0 : fieldT Try.prog 38 0 = some (0, 4) := by kernel_rfl
theorem TF.sz4 : szT Try.prog 4 = some 1 := by kernel_rfl
theorem TF.agg4 : aggT Try.prog 4 = some false := by kernel_rfl

theorem has_ok (d : Disk) (i : Nat) (hi : i < 4) : AC Try.prog 40 [.agg d.cs, .v (.int .i64 (i : Int))] [] (fun r n => n = [] ∧ r = boolA (decide (0 ≤ d.long i))) := by
  refine ac_of_awp (rs := [4]) (nt := 10) Try.func40 rfl rfl rfl rfl (fun w0 C0 hq => ?_)
  refine awp_seq ?_
  refine awp_region ?_
  refine r_box rfl rfl rfl (fun b2 => ?_)
  refine r_assign rfl rfl ?_
  refine awl_nil ?_
  refine x_then ?_
  refine awp_seq ?_
  refine awp_region ?_
  refine r_move rfl rfl ?_
  first | (refine r_fieldb rfl TF.f38_1 TF.sz35 rfl ?_) | (refine r_fieldcp rfl TF.f38_1 TF.sz35 rfl ?_)
  refine r_indexArrB rfl rfl TF.un35 TF.sz34 (by omega) (by omega) rfl ?_
  refine r_load1b 0 rfl rfl (long_at hi) TF.agg34 rfl ?_
  refine r_cmp rfl rfl rfl rfl ?_
  refine r_assign rfl rfl ?_
  refine awl_nil ?_
  refine x_then ?_
  refine awp_ret ?_
  exact ⟨(.inl rfl), _, [], (.one (by first | exact .mk rfl rfl | exact .nil rfl)), ⟨rfl, rfl⟩, (List.nil_sublist _), (by simp)⟩

theorem name_ok (i : Nat) (hi : i < 4) : AC Try.prog 21 [.v (.int .i64 (i : Int))] [] (fun r n => n = [] ∧ r = strA (nm i)) := by
  refine ac_of_awp (rs := [2]) (nt := 7) Try.func21 rfl rfl rfl rfl (fun w0 C0 hq => ?_)
  refine awp_seq ?_
  refine awp_region ?_
  refine r_assign rfl rfl ?_
  refine awl_nil ?_
  refine x_then ?_
  refine awp_seq ?_
  refine awp_region ?_
  refine r_move rfl rfl ?_
  refine r_move rfl rfl ?_
  refine r_ari _ rfl rfl rfl (wrap_id (by first | omega | (simp; omega))) rfl ?_
  refine r_strLH rfl rfl rfl TF.un9 (by omega) (by omega) (by rw [abcd]; omega) rfl ?_
  refine r_assign rfl rfl ?_
  refine awl_nil ?_
  refine x_then ?_
  refine awp_ret ?_
  exact ⟨(.inl rfl), _, [], (.one (by first | exact .mk rfl rfl | exact .nil rfl)), ⟨rfl, rfl⟩, (List.nil_sublist _), (by simp)⟩

theorem bytes_ok (d : Disk) (hok : OkD d) (i : Nat) (hi : i < 4) : AC Try.prog 41 [.agg d.cs, .v (.int .i64 (i : Int))] [] (fun r n => n = [] ∧ r = bts (bytesD d i)) := by
  refine ac_of_awp (rs := [4]) (nt := 25) Try.func41 rfl rfl rfl rfl (fun w0 C0 hq => ?_)
  refine awp_seq ?_
  refine awp_region ?_
  refine r_box rfl rfl rfl (fun b2 => ?_)
  refine r_assign rfl rfl ?_
  refine awl_nil ?_
  refine x_then ?_
  refine awp_seq ?_
  refine awp_region ?_
  refine r_assign rfl rfl ?_
  refine awl_nil ?_
  refine x_then ?_
  refine awp_seq ?_
  refine awp_seq ?_
  refine awp_region ?_
  refine r_assign rfl rfl ?_
  refine awl_nil ?_
  refine x_then ?_
  refine awp_block ?_
  refine awp_loop (fun nn0 S => ∃ k : Nat, S = ⟨25, [(1, .a (.v (.int .i64 ((i : Int))))), (2, .a (.v (.pointer (some ⟨b2, 0, none⟩)))), (5, .own 5 1 (u8s (List.replicate k (d.dat i)))), (6, .a (.v (.int .i64 ((k : Int)))))], [⟨b2, true, .box d.cs⟩]⟩ ∧ nn0 = 9 - k ∧ (k ≤ ((d.long i).tmod 9).toNat)) (9 - (0)) ⟨25, [(1, .a (.v (.int .i64 ((i : Int))))), (2, .a (.v (.pointer (some ⟨b2, 0, none⟩)))), (5, .own 5 1 (u8s (List.replicate (0) (d.dat i)))), (6, .a (.v (.int .i64 (((0) : Int)))))], [⟨b2, true, .box d.cs⟩]⟩ ⟨rfl, (Slots.cons rfl (by first | exact .refl _ | exact .nilOwn _ _ | exact .nilSl _ | exact .ownSl _ _ _  | exact SV.le.of_eq (by simp)) (Slots.cons rfl (by first | exact .refl _ | exact .nilOwn _ _ | exact .nilSl _ | exact .ownSl _ _ _  | exact SV.le.of_eq (by simp)) (Slots.cons rfl (by first | exact .refl _ | exact .nilOwn _ _ | exact .nilSl _ | exact .ownSl _ _ _  | exact SV.le.of_eq (by simp)) (Slots.cons rfl (by first | exact .refl _ | exact .nilOwn _ _ | exact .nilSl _ | exact .ownSl _ _ _  | exact SV.le.of_eq (by simp)) Slots.nil)))), (by first | exact List.Sublist.refl _ | exact .cons_cons _ (.cons _ (.refl _)) | exact List.nil_sublist _ | exact .cons _ (.refl _) | exact .cons _ (.cons _ (.refl _)) | exact .cons _ (.cons _ (.cons _ (.refl _))) | exact .cons _ (.cons _ (.cons _ (.cons _ (.refl _)))) | exact .cons_cons _ (List.nil_sublist _))⟩ ⟨0, rfl, rfl, Nat.zero_le _⟩ ?_
  rintro nn0 _ ⟨k, rfl, rfl, hk⟩
  have hdi := hok i
  have h9 : (d.long i).tmod 9 < 9 := Int.tmod_lt_of_pos _ (by decide)
  refine awp_seq ?_
  refine awp_seq ?_
  refine awp_region ?_
  refine r_move rfl rfl ?_
  refine r_move rfl rfl ?_
  first | (refine r_fieldb rfl TF.f38_1 TF.sz35 rfl ?_) | (refine r_fieldcp rfl TF.f38_1 TF.sz35 rfl ?_)
  refine r_indexArrB rfl rfl TF.un35 TF.sz34 (by omega) (by omega) rfl ?_
  refine r_load1b 0 rfl rfl (long_at hi) TF.agg34 rfl ?_
  refine r_conv (d.long i) rfl TF.un34 TF.un3 (wrap_id (i := d.long i) (by omega)) rfl ?_
  refine r_div ((d.long i).tmod 9) rfl rfl (rem_some (by decide)) rfl rfl ?_
  refine r_cmp rfl rfl rfl rfl ?_
  refine awl_nil ?_
  refine x_then ?_
  refine awp_cond rfl (fun hc0 => ?_) (fun hc0 => ?_)
  ·
    have hlt : (k : Int) < (d.long i).tmod 9 := of_decide_eq_true hc0
    refine awp_skip ?_
    refine x_then ?_
    refine awp_seq ?_
    refine awp_block ?_
    refine awp_region ?_
    refine r_move rfl rfl ?_
    refine r_move rfl rfl ?_
    first | (refine r_fieldb rfl TF.f38_2 TF.sz36 rfl ?_) | (refine r_fieldcp rfl TF.f38_2 TF.sz36 rfl ?_)
    refine r_indexArrB rfl rfl TF.un36 TF.sz5 (by omega) (by omega) rfl ?_
    refine r_load1b 0 rfl rfl (dat_at hi) TF.agg5 rfl ?_
    refine r_lit 22 (parts := [(0, .tmp 21)]) rfl TF.sl42 TF.sz5 TF.zraw5 rfl rfl rfl rfl rfl rfl rfl ?_
    refine r_append 5 rfl (by first | exact .own _ | exact .nil) rfl (by first | exact .sl _ | exact .own _ _ | exact .nil) TF.sl42 TF.sz5 (by decide) TF.by5 TF.zlen5 (by simp [chunks, u8s]; omega) (by simp [chunks, u8s]; omega) rfl ?_
    refine r_assign rfl rfl ?_
    refine awl_nil ?_
    refine x_block ?_
    refine x_then ?_
    refine awp_region ?_
    refine r_move rfl rfl ?_
    refine r_ari _ rfl rfl rfl (wrap_id (by first | omega | (simp; omega))) rfl ?_
    refine r_assign rfl rfl ?_
    refine awl_nil ?_
    refine x_then ?_
    refine ⟨9 - (k + 1), ⟨25, [(1, .a (.v (.int .i64 ((i : Int))))), (2, .a (.v (.pointer (some ⟨b2, 0, none⟩)))), (5, .own 5 1 (u8s (List.replicate (k + 1) (d.dat i)))), (6, .a (.v (.int .i64 (((k + 1) : Int)))))], [⟨b2, true, .box d.cs⟩]⟩, ⟨rfl, (Slots.cons rfl (by first | exact .refl _ | exact .nilOwn _ _ | exact .nilSl _ | exact .ownSl _ _ _  | exact SV.le.ownEq (by first | rfl | (rw [List.replicate_succ', ← u8s_append]; rfl)) | exact SV.le.of_eq (by first | rfl | (rw [List.replicate_succ', ← u8s_append]; rfl))) (Slots.cons rfl (by first | exact .refl _ | exact .nilOwn _ _ | exact .nilSl _ | exact .ownSl _ _ _  | exact SV.le.ownEq (by first | rfl | (rw [List.replicate_succ', ← u8s_append]; rfl)) | exact SV.le.of_eq (by first | rfl | (rw [List.replicate_succ', ← u8s_append]; rfl))) (Slots.cons rfl (by first | exact .refl _ | exact .nilOwn _ _ | exact .nilSl _ | exact .ownSl _ _ _  | exact SV.le.ownEq (by first | rfl | (rw [List.replicate_succ', ← u8s_append]; rfl)) | exact SV.le.of_eq (by first | rfl | (rw [List.replicate_succ', ← u8s_append]; rfl))) (Slots.cons rfl (by first | exact .refl _ | exact .nilOwn _ _ | exact .nilSl _ | exact .ownSl _ _ _  | exact SV.le.ownEq (by first | rfl | (rw [List.replicate_succ', ← u8s_append]; rfl)) | exact SV.le.of_eq (by first | rfl | (rw [List.replicate_succ', ← u8s_append]; rfl))) Slots.nil)))), (by first | exact List.Sublist.refl _ | exact .cons_cons _ (.cons _ (.refl _)) | exact List.nil_sublist _ | exact .cons _ (.refl _) | exact .cons _ (.cons _ (.refl _)) | exact .cons _ (.cons _ (.cons _ (.refl _))) | exact .cons _ (.cons _ (.cons _ (.cons _ (.refl _)))) | exact .cons_cons _ (List.nil_sublist _))⟩, (by omega), ⟨k + 1, rfl, rfl, (by omega)⟩⟩
  ·
    have hge : ¬ (k : Int) < (d.long i).tmod 9 := of_decide_eq_false hc0
    obtain rfl : k = ((d.long i).tmod 9).toNat := by omega
    refine awp_exit ?_
    refine x_thenE ?_
    refine x_thenE ?_
    refine x_blockE ?_
    refine x_then ?_
    refine awp_seq ?_
    refine awp_region ?_
    refine r_move rfl rfl ?_
    refine r_assign rfl rfl ?_
    refine awl_nil ?_
    refine x_then ?_
    refine awp_ret ?_
    exact ⟨(.inl rfl), _, [], (.one (by first | exact .mk rfl rfl | exact .nil rfl)), ⟨rfl, rfl⟩, (List.nil_sublist _), (by simp)⟩

theorem files_ok (d : Disk) (hok : OkD d) : AC Try.prog 18 [.agg d.cs] [] (fun r n => n = [] ∧ r = files (filesD d)) := by
  refine ac_of_awp (rs := [2]) (nt := 22) Try.func18 rfl rfl rfl rfl (fun w0 C0 hq => ?_)
  refine awp_seq ?_
  refine awp_region ?_
  refine r_box rfl rfl rfl (fun b1 => ?_)
  refine r_assign rfl rfl ?_
  refine awl_nil ?_
  refine x_then ?_
  refine awp_seq ?_
  refine awp_region ?_
  refine r_assign rfl rfl ?_
  refine awl_nil ?_
  refine x_then ?_
  refine awp_seq ?_
  refine awp_seq ?_
  refine awp_region ?_
  refine r_assign rfl rfl ?_
  refine awl_nil ?_
  refine x_then ?_
  refine awp_block ?_
  refine awp_loop (fun nn0 S => ∃ i : Nat, S = ⟨22, [(1, .a (.v (.pointer (some ⟨b1, 0, none⟩)))), (3, .own 3 2 (((List.range i).filterMap (fileD d)).map File.cs)), (4, .a (.v (.int .i64 ((i : Int)))))], [⟨b1, true, .box d.cs⟩]⟩ ∧ nn0 = 4 - i ∧ (i ≤ 4)) (4 - (0)) ⟨22, [(1, .a (.v (.pointer (some ⟨b1, 0, none⟩)))), (3, .own 3 2 (((List.range (0)).filterMap (fileD d)).map File.cs)), (4, .a (.v (.int .i64 (((0) : Int)))))], [⟨b1, true, .box d.cs⟩]⟩ ⟨rfl, (Slots.cons rfl (by first | exact .refl _ | exact .nilOwn _ _ | exact .nilSl _ | exact .ownSl _ _ _  | exact SV.le.of_eq (by simp)) (Slots.cons rfl (by first | exact .refl _ | exact .nilOwn _ _ | exact .nilSl _ | exact .ownSl _ _ _  | exact SV.le.of_eq (by simp)) (Slots.cons rfl (by first | exact .refl _ | exact .nilOwn _ _ | exact .nilSl _ | exact .ownSl _ _ _  | exact SV.le.of_eq (by simp)) Slots.nil))), (by first | exact List.Sublist.refl _ | exact .cons_cons _ (.cons _ (.refl _)) | exact List.nil_sublist _ | exact .cons _ (.refl _) | exact .cons _ (.cons _ (.refl _)) | exact .cons _ (.cons _ (.cons _ (.refl _))) | exact .cons _ (.cons _ (.cons _ (.cons _ (.refl _)))) | exact .cons_cons _ (List.nil_sublist _))⟩ ⟨0, rfl, rfl, (by omega)⟩ ?_
  rintro nn0 _ ⟨i, rfl, rfl, hi⟩
  refine awp_seq ?_
  refine awp_seq ?_
  refine awp_region ?_
  refine r_move rfl rfl ?_
  refine r_cmp rfl rfl rfl rfl ?_
  refine awl_nil ?_
  refine x_then ?_
  refine awp_cond rfl (fun hc0 => ?_) (fun hc0 => ?_)
  ·
    have hi4 : i < 4 := by have := of_decide_eq_true hc0; omega
    have hfl : ((List.range i).filterMap (fileD d)).length ≤ i := Nat.le_trans (List.length_filterMap_le _ _) (by simp)
    refine awp_skip ?_
    refine x_then ?_
    refine awp_seq ?_
    refine awp_block ?_
    refine awp_seq ?_
    refine awp_region ?_
    refine r_loadAb 0 rfl rfl TF.agg38 TF.sz38 rfl rfl ?_
    refine r_move rfl rfl ?_
    refine r_call0 hq rfl rfl (.cons (.ev rfl rfl) (.cons (.ev rfl rfl) .nil)) (has_ok d i hi4) rfl TF.en40 rfl (fun r hr => ?_)
    obtain rfl := hr
    refine awl_nil ?_
    refine x_then ?_
    refine awp_cond rfl (fun hc1 => ?_) (fun hc1 => ?_)
    ·
      have hfd : fileD d i = some ⟨nm i, bytesD d i⟩ := if_pos (of_decide_eq_true hc1)
      refine awp_drawS [12, 13, 14, 15, 16, 17, 18, 19] [_, _, _, _, _, _, _, _] [] [(7, 19)] TF.mixed rfl rfl rfl ⟨⟨⟨⟨⟨⟨⟨⟨trivial
        , ⟨_, rfl, fun sl hd hr ho => by
            refine r_move (hr 3 _ rfl rfl rfl) rfl ?_
            exact awl_nil ⟨rfl, post_put⟩⟩⟩
        , ⟨_, rfl, fun sl hd hr ho => by
            refine r_move (hr 4 _ rfl rfl rfl) rfl ?_
            exact awl_nil ⟨rfl, post_put⟩⟩⟩
        , ⟨_, rfl, fun sl hd hr ho => by
            refine r_call0 hq rfl rfl (.cons (.ev (hd 1 _ rfl rfl rfl) rfl) .nil) (name_ok i hi4) rfl TF.en21 rfl (fun r hr => ?_)
            obtain rfl := hr
            exact awl_nil ⟨rfl, post_put⟩⟩⟩
        , ⟨_, rfl, fun sl hd hr ho => by
            refine r_loadAb 0 (hr 1 _ rfl rfl rfl) rfl TF.agg38 TF.sz38 rfl rfl ?_
            exact awl_nil ⟨rfl, post_put⟩⟩⟩
        , ⟨_, rfl, fun sl hd hr ho => by
            refine r_move (hr 4 _ rfl rfl rfl) rfl ?_
            exact awl_nil ⟨rfl, post_put⟩⟩⟩
        , ⟨_, rfl, fun sl hd hr ho => by
            refine r_call0 hq rfl rfl (.cons (.ev (hd 3 _ rfl rfl rfl) rfl) (.cons (.ev (hd 4 _ rfl rfl rfl) rfl) .nil)) (bytes_ok d hok i hi4) rfl TF.en41 rfl (fun r hr => ?_)
            obtain rfl := hr
            exact awl_nil ⟨rfl, post_put⟩⟩⟩
        , ⟨_, rfl, fun sl hd hr ho => by
            refine r_build (parts := [(0, .tmp 14), (1, .tmp 17)]) rfl TF.pl67 TF.zero67 (parts_cons (hd 2 _ rfl rfl rfl) (parts_cons (hd 5 _ rfl rfl rfl) parts_nil)) rfl rfl ?_
            exact awl_nil ⟨rfl, post_put⟩⟩⟩
        , ⟨_, rfl, fun sl hd hr ho => by
            refine r_lit 19 (parts := [(0, .tmp 18)]) rfl TF.sl31 TF.sz67 TF.zraw67 rfl rfl (parts_cons (hd 6 _ rfl rfl rfl) parts_nil) rfl rfl rfl rfl ?_
            exact awl_nil ⟨rfl, (post_dem (ho 19 (List.mem_of_elem_eq_true rfl)))⟩⟩⟩
        (by rfl) ?_
      refine r_append 3 rfl (by first | exact .own _ | exact .nil) rfl (by first | exact .sl _ | exact .own _ _ | exact .nil) TF.sl31 TF.sz67 (by decide) TF.by67 TF.zlen67 (by simp [chunks] <;> omega) (by simp [chunks] <;> omega) rfl ?_
      refine r_assign rfl rfl ?_
      refine awl_nil ?_
      refine x_block ?_
      refine x_then ?_
      refine awp_region ?_
      refine r_move rfl rfl ?_
      refine r_ari _ rfl rfl rfl (wrap_id (by first | omega | (simp; omega))) rfl ?_
      refine r_assign rfl rfl ?_
      refine awl_nil ?_
      refine x_then ?_
      have hrs : (List.range (i + 1)).filterMap (fileD d) = (List.range i).filterMap (fileD d) ++ (fileD d i).toList := by rw [List.range_succ, List.filterMap_append]; cases h : fileD d i <;> simp [h]
      rw [hfd] at hrs
      refine ⟨4 - (i + 1), ⟨22, [(1, .a (.v (.pointer (some ⟨b1, 0, none⟩)))), (3, .own 3 2 (((List.range (i + 1)).filterMap (fileD d)).map File.cs)), (4, .a (.v (.int .i64 (((i + 1) : Int)))))], [⟨b1, true, .box d.cs⟩]⟩, ⟨rfl, (Slots.cons rfl (by first | exact .refl _ | exact .nilOwn _ _ | exact .nilSl _ | exact .ownSl _ _ _  | exact SV.le.ownEq (by first | rfl | (rw [hrs, Option.toList_some, List.map_append]; rfl) | (rw [hrs, Option.toList_none, List.append_nil])) | exact SV.le.of_eq (by first | rfl | (rw [hrs, Option.toList_some, List.map_append]; rfl) | (rw [hrs, Option.toList_none, List.append_nil]))) (Slots.cons rfl (by first | exact .refl _ | exact .nilOwn _ _ | exact .nilSl _ | exact .ownSl _ _ _  | exact SV.le.ownEq (by first | rfl | (rw [hrs, Option.toList_some, List.map_append]; rfl) | (rw [hrs, Option.toList_none, List.append_nil])) | exact SV.le.of_eq (by first | rfl | (rw [hrs, Option.toList_some, List.map_append]; rfl) | (rw [hrs, Option.toList_none, List.append_nil]))) (Slots.cons rfl (by first | exact .refl _ | exact .nilOwn _ _ | exact .nilSl _ | exact .ownSl _ _ _  | exact SV.le.ownEq (by first | rfl | (rw [hrs, Option.toList_some, List.map_append]; rfl) | (rw [hrs, Option.toList_none, List.append_nil])) | exact SV.le.of_eq (by first | rfl | (rw [hrs, Option.toList_some, List.map_append]; rfl) | (rw [hrs, Option.toList_none, List.append_nil]))) Slots.nil))), (by first | exact List.Sublist.refl _ | exact .cons_cons _ (.cons _ (.refl _)) | exact List.nil_sublist _ | exact .cons _ (.refl _) | exact .cons _ (.cons _ (.refl _)) | exact .cons _ (.cons _ (.cons _ (.refl _))) | exact .cons _ (.cons _ (.cons _ (.cons _ (.refl _)))) | exact .cons_cons _ (List.nil_sublist _))⟩, (by omega), ⟨i + 1, rfl, rfl, (by omega)⟩⟩
    ·
      have hfd : fileD d i = none := if_neg (of_decide_eq_false hc1)
      refine awp_skip ?_
      refine x_block ?_
      refine x_then ?_
      refine awp_region ?_
      refine r_move rfl rfl ?_
      refine r_ari _ rfl rfl rfl (wrap_id (by first | omega | (simp; omega))) rfl ?_
      refine r_assign rfl rfl ?_
      refine awl_nil ?_
      refine x_then ?_
      have hrs : (List.range (i + 1)).filterMap (fileD d) = (List.range i).filterMap (fileD d) ++ (fileD d i).toList := by rw [List.range_succ, List.filterMap_append]; cases h : fileD d i <;> simp [h]
      rw [hfd] at hrs
      refine ⟨4 - (i + 1), ⟨22, [(1, .a (.v (.pointer (some ⟨b1, 0, none⟩)))), (3, .own 3 2 (((List.range (i + 1)).filterMap (fileD d)).map File.cs)), (4, .a (.v (.int .i64 (((i + 1) : Int)))))], [⟨b1, true, .box d.cs⟩]⟩, ⟨rfl, (Slots.cons rfl (by first | exact .refl _ | exact .nilOwn _ _ | exact .nilSl _ | exact .ownSl _ _ _  | exact SV.le.ownEq (by first | rfl | (rw [hrs, Option.toList_some, List.map_append]; rfl) | (rw [hrs, Option.toList_none, List.append_nil])) | exact SV.le.of_eq (by first | rfl | (rw [hrs, Option.toList_some, List.map_append]; rfl) | (rw [hrs, Option.toList_none, List.append_nil]))) (Slots.cons rfl (by first | exact .refl _ | exact .nilOwn _ _ | exact .nilSl _ | exact .ownSl _ _ _  | exact SV.le.ownEq (by first | rfl | (rw [hrs, Option.toList_some, List.map_append]; rfl) | (rw [hrs, Option.toList_none, List.append_nil])) | exact SV.le.of_eq (by first | rfl | (rw [hrs, Option.toList_some, List.map_append]; rfl) | (rw [hrs, Option.toList_none, List.append_nil]))) (Slots.cons rfl (by first | exact .refl _ | exact .nilOwn _ _ | exact .nilSl _ | exact .ownSl _ _ _  | exact SV.le.ownEq (by first | rfl | (rw [hrs, Option.toList_some, List.map_append]; rfl) | (rw [hrs, Option.toList_none, List.append_nil])) | exact SV.le.of_eq (by first | rfl | (rw [hrs, Option.toList_some, List.map_append]; rfl) | (rw [hrs, Option.toList_none, List.append_nil]))) Slots.nil))), (by first | exact List.Sublist.refl _ | exact .cons_cons _ (.cons _ (.refl _)) | exact List.nil_sublist _ | exact .cons _ (.refl _) | exact .cons _ (.cons _ (.refl _)) | exact .cons _ (.cons _ (.cons _ (.refl _))) | exact .cons _ (.cons _ (.cons _ (.cons _ (.refl _)))) | exact .cons_cons _ (List.nil_sublist _))⟩, (by omega), ⟨i + 1, rfl, rfl, (by omega)⟩⟩
  ·
    have hi4 : ¬ i < 4 := by have := of_decide_eq_false hc0; omega
    obtain rfl : i = 4 := by omega
    refine awp_exit ?_
    refine x_thenE ?_
    refine x_thenE ?_
    refine x_blockE ?_
    refine x_then ?_
    refine awp_seq ?_
    refine awp_region ?_
    refine r_move rfl rfl ?_
    refine r_assign rfl rfl ?_
    refine awl_nil ?_
    refine x_then ?_
    refine awp_ret ?_
    exact ⟨(.inl rfl), _, [], (.one (by first | exact .mk rfl rfl | exact .nil rfl)), ⟨rfl, rfl⟩, (List.nil_sublist _), (by simp)⟩

theorem zip_at {ms : List Int} {ds : List Disk} {k : Nat} {m : Int} {d : Disk} (h : ms[k]? = some m) (h' : ds[k]? = some d) : (ms.zip ds)[k]? = some (m, d) := by rw [List.getElem?_zip_eq_some]; exact ⟨h, h'⟩
theorem at_hit1 {ms : List Int} {ds : List Disk} {k : Nat} {m x : Int} {d : Disk} (h : ms[k]? = some x) (h' : ds[k]? = some d) (hn : ((ms.zip ds).take k).findIdx? (fun p => p.1 == m) = none) (hx : (x == m) = true) : atF ms ds m = (filesD d, d.told) := by
  have hf := fidx_hit (zip_at h h') hx hn
  have : (ms.zip ds).find? (fun p => p.1 == m) = some (x, d) := by
    obtain ⟨hi, h2, h3⟩ := List.findIdx?_eq_some_iff_getElem.1 hf
    rw [List.find?_eq_some_iff_getElem]
    refine ⟨hx, k, hi, ?_, fun j hj => by simpa using h3 j hj⟩
    have := zip_at h h'
    exact (List.getElem?_eq_some_iff.1 this).2
  unfold atF; rw [this]
theorem at_miss1 {ms : List Int} {ds : List Disk} {k : Nat} {m : Int} (hk : (ms.zip ds).length ≤ k) (hn : ((ms.zip ds).take k).findIdx? (fun p => p.1 == m) = none) : atF ms ds m = ([], false) := by
  have hf := fidx_end hk hn
  unfold atF
  rw [List.findIdx?_eq_none_iff] at hf
  rw [List.find?_eq_none.2 (fun p hp => by simpa using hf p hp)]

theorem atc_ok (ms : List Int) (ds : List Disk) (hml : ms.length ≤ 1000000) (hok : ∀ d ∈ ds, OkD d) (m : Int) : AC Try.prog 30 [.v (.int .u64 m), .cp [numsA ms], .cp [disksA ds]] [] (fun r n => n = [] ∧ r = .tup [files (atF ms ds m).1, boolA (atF ms ds m).2]) := by
  refine ac_of_awp (rs := [4, 5]) (nt := 35) Try.func30 rfl rfl rfl rfl (fun w0 C0 hq => ?_)
  refine awp_seq ?_
  refine awp_region ?_
  refine r_assign rfl rfl ?_
  first | refine awl_imp (imp_le 4 (x := .a (files [])) rfl (.nilSl _)) ?_ | skip
  refine r_assign rfl rfl ?_
  refine awl_nil ?_
  refine x_then ?_
  refine awp_seq ?_
  refine awp_seq ?_
  refine awp_region ?_
  refine r_assign rfl rfl ?_
  refine awl_nil ?_
  refine x_then ?_
  refine awp_block ?_
  refine awp_loop (fun nn0 S => ∃ k : Nat, S = ⟨35, [(0, .a (.v (.int .u64 (m)))), (1, .a (.cp [numsA ms])), (2, .a (.cp [disksA ds])), (6, .a (.v (.int .i64 ((k : Int)))))], []⟩ ∧ nn0 = ms.length - k ∧ (k ≤ ms.length) ∧ (((ms.zip ds).take k).findIdx? (fun p => p.1 == m) = none)) (ms.length - (0)) ⟨35, [(0, .a (.v (.int .u64 (m)))), (1, .a (.cp [numsA ms])), (2, .a (.cp [disksA ds])), (6, .a (.v (.int .i64 (((0) : Int)))))], []⟩ ⟨rfl, (Slots.cons rfl (by first | exact .refl _ | exact .nilOwn _ _ | exact .nilSl _ | exact .ownSl _ _ _  | exact SV.le.of_eq (by simp)) (Slots.cons rfl (by first | exact .refl _ | exact .nilOwn _ _ | exact .nilSl _ | exact .ownSl _ _ _  | exact SV.le.of_eq (by simp)) (Slots.cons rfl (by first | exact .refl _ | exact .nilOwn _ _ | exact .nilSl _ | exact .ownSl _ _ _  | exact SV.le.of_eq (by simp)) (Slots.cons rfl (by first | exact .refl _ | exact .nilOwn _ _ | exact .nilSl _ | exact .ownSl _ _ _  | exact SV.le.of_eq (by simp)) Slots.nil)))), (by first | exact List.Sublist.refl _ | exact .cons_cons _ (.cons _ (.refl _)) | exact List.nil_sublist _ | exact .cons _ (.refl _) | exact .cons _ (.cons _ (.refl _)) | exact .cons _ (.cons _ (.cons _ (.refl _))) | exact .cons _ (.cons _ (.cons _ (.cons _ (.refl _)))) | exact .cons_cons _ (List.nil_sublist _))⟩ ⟨0, rfl, rfl, Nat.zero_le _, rfl⟩ ?_
  rintro nn0 _ ⟨k, rfl, rfl, hk, hno⟩
  refine awp_seq ?_
  refine awp_seq ?_
  refine awp_region ?_
  refine r_move rfl rfl ?_
  refine r_load1 rfl TF.agg22 rfl ?_
  first | (refine r_lenS rfl rfl TF.sl22 rfl ?_) | (refine r_lenNil rfl TF.sl22 rfl ?_) | (refine r_lenV rfl TF.sl22 rfl ?_)
  refine r_cmp rfl rfl rfl rfl ?_
  refine r_move rfl rfl ?_
  refine g_cases (t' := 11) rfl (fun hg11 => ?_) (fun hg11 => ?_)
  ·
    have hltx : k < ms.length := by have := of_decide_eq_true hg11; simpa using this
    obtain ⟨x, hx⟩ := get_lt hltx
    refine g_run rfl rfl hg11 ?_
    refine r_move rfl rfl ?_
    refine g_run rfl rfl hg11 ?_
    refine r_load1 rfl TF.agg23 rfl ?_
    refine g_run rfl rfl hg11 ?_
    first | (refine r_lenS rfl rfl TF.sl23 rfl ?_) | (refine r_lenNil rfl TF.sl23 rfl ?_) | (refine r_lenV rfl TF.sl23 rfl ?_)
    refine g_run rfl rfl hg11 ?_
    refine r_cmp rfl rfl rfl rfl ?_
    refine r_pickT rfl hg11 rfl rfl ?_
    refine awl_nil ?_
    refine x_then ?_
    refine awp_cond rfl (fun hc0 => ?_) (fun hc0 => ?_)
    ·
      have hlty : k < ds.length := by have := of_decide_eq_true hc0; simpa using this
      obtain ⟨y, hy⟩ := get_lt hlty
      refine awp_skip ?_
      refine x_then ?_
      refine awp_seq ?_
      refine awp_block ?_
      refine awp_seq ?_
      refine awp_region ?_
      refine r_load1 rfl TF.agg22 rfl ?_
      refine r_move rfl rfl ?_
      refine r_index rfl rfl rfl TF.sl22 TF.sz30 (by omega) (get_map hx) rfl ?_
      refine r_load1 rfl TF.agg30 rfl ?_
      refine r_move rfl rfl ?_
      refine r_cmp rfl rfl rfl rfl ?_
      refine awl_nil ?_
      refine x_then ?_
      refine awp_cond rfl (fun hc1 => ?_) (fun hc1 => ?_)
      ·
        have hhit := at_hit1 hx hy hno hc1
        refine awp_seq ?_
        refine awp_drawS [25, 26, 27, 28, 29, 30, 31, 32, 33, 34, 4] [_, _, _, _, _, _, _, _, _, _, _] [] [] TF.mixed rfl rfl rfl ⟨⟨⟨⟨⟨⟨⟨⟨⟨⟨⟨trivial
          , ⟨_, rfl, fun sl hd hr ho => by
              refine r_load1 (hr 2 _ rfl rfl rfl) TF.agg23 rfl ?_
              exact awl_nil ⟨rfl, post_put⟩⟩⟩
          , ⟨_, rfl, fun sl hd hr ho => by
              refine r_move (hr 6 _ rfl rfl rfl) rfl ?_
              exact awl_nil ⟨rfl, post_put⟩⟩⟩
          , ⟨_, rfl, fun sl hd hr ho => by
              refine r_index (hd 0 _ rfl rfl rfl) rfl (hd 1 _ rfl rfl rfl) TF.sl23 TF.sz38 (by omega) (get_map hy) rfl ?_
              exact awl_nil ⟨rfl, post_put⟩⟩⟩
          , ⟨_, rfl, fun sl hd hr ho => by
              refine r_loadA (hd 2 _ rfl rfl rfl) TF.agg38 TF.sz38 rfl rfl ?_
              exact awl_nil ⟨rfl, post_put⟩⟩⟩
          , ⟨_, rfl, fun sl hd hr ho => by
              refine r_call0 hq rfl rfl (.cons (.ev (hd 3 _ rfl rfl rfl) rfl) .nil) (files_ok y (hok y (List.mem_of_getElem? hy))) rfl TF.en18 rfl (fun r hr => ?_)
              obtain rfl := hr
              exact awl_nil ⟨rfl, post_put⟩⟩⟩
          , ⟨_, rfl, fun sl hd hr ho => by
              refine r_load1 (hr 2 _ rfl rfl rfl) TF.agg23 rfl ?_
              exact awl_nil ⟨rfl, post_put⟩⟩⟩
          , ⟨_, rfl, fun sl hd hr ho => by
              refine r_move (hr 6 _ rfl rfl rfl) rfl ?_
              exact awl_nil ⟨rfl, post_put⟩⟩⟩
          , ⟨_, rfl, fun sl hd hr ho => by
              refine r_index (hd 5 _ rfl rfl rfl) rfl (hd 6 _ rfl rfl rfl) TF.sl23 TF.sz38 (by omega) (get_map hy) rfl ?_
              exact awl_nil ⟨rfl, post_put⟩⟩⟩
          , ⟨_, rfl, fun sl hd hr ho => by
              first | (refine r_fieldcp (hd 7 _ rfl rfl rfl) TF.f38_0 TF.sz4 rfl ?_) | (refine r_fieldb (hd 7 _ rfl rfl rfl) TF.f38_0 TF.sz4 rfl ?_)
              exact awl_nil ⟨rfl, post_put⟩⟩⟩
          , ⟨_, rfl, fun sl hd hr ho => by
              refine r_load1 (hd 8 _ rfl rfl rfl) TF.agg4 rfl ?_
              exact awl_nil ⟨rfl, post_put⟩⟩⟩
          , ⟨_, rfl, fun sl hd hr ho => by
              refine r_assign (hd 4 _ rfl rfl rfl) rfl ?_
              exact awl_nil ⟨rfl, post_put⟩⟩⟩
          (by rfl) ?_
        first | refine awl_imp (imp_le 4 (x := .a (files [])) rfl (.nilSl _)) ?_ | skip
        refine r_assign rfl rfl ?_
        refine awl_nil ?_
        refine x_then ?_
        refine awp_ret ?_
        refine x_blockR ?_
        refine x_thenR ?_
        refine x_thenR ?_
        refine x_blockR ?_
        refine x_thenR ?_
        exact ⟨(.inl rfl), _, [], (.two (by first | exact .mk rfl rfl | exact .nil rfl) (by first | exact .mk rfl rfl | exact .nil rfl)), ⟨rfl, by rw [hhit]; rfl⟩, (List.nil_sublist _), (by simp)⟩
      ·
        refine awp_skip ?_
        refine x_block ?_
        refine x_then ?_
        refine awp_region ?_
        refine r_move rfl rfl ?_
        refine r_ari _ rfl rfl rfl (wrap_id (by first | omega | (simp; omega))) rfl ?_
        refine r_assign rfl rfl ?_
        refine awl_nil ?_
        refine x_then ?_
        refine ⟨ms.length - (k + 1), ⟨35, [(0, .a (.v (.int .u64 (m)))), (1, .a (.cp [numsA ms])), (2, .a (.cp [disksA ds])), (6, .a (.v (.int .i64 (((k + 1) : Int)))))], []⟩, ⟨rfl, (Slots.cons rfl (by first | exact .refl _ | exact .nilOwn _ _ | exact .nilSl _ | exact .ownSl _ _ _  | exact SV.le.of_eq (by simp)) (Slots.cons rfl (by first | exact .refl _ | exact .nilOwn _ _ | exact .nilSl _ | exact .ownSl _ _ _  | exact SV.le.of_eq (by simp)) (Slots.cons rfl (by first | exact .refl _ | exact .nilOwn _ _ | exact .nilSl _ | exact .ownSl _ _ _  | exact SV.le.of_eq (by simp)) (Slots.cons rfl (by first | exact .refl _ | exact .nilOwn _ _ | exact .nilSl _ | exact .ownSl _ _ _  | exact SV.le.of_eq (by simp)) Slots.nil)))), (by first | exact List.Sublist.refl _ | exact .cons_cons _ (.cons _ (.refl _)) | exact List.nil_sublist _ | exact .cons _ (.refl _) | exact .cons _ (.cons _ (.refl _)) | exact .cons _ (.cons _ (.cons _ (.refl _))) | exact .cons _ (.cons _ (.cons _ (.cons _ (.refl _)))) | exact .cons_cons _ (List.nil_sublist _))⟩, (by omega), ⟨k + 1, rfl, rfl, (by omega), (fidx_step (zip_at hx hy) hc1 hno)⟩⟩
    ·
      try (have hmiss := at_miss1 (k := k) (by have := of_decide_eq_false hc0; simp at this ⊢; omega) hno)
      refine awp_exit ?_
      refine x_thenE ?_
      refine x_thenE ?_
      refine x_blockE ?_
      refine x_then ?_
      refine awp_seq ?_
      refine awp_region ?_
      refine r_assign rfl rfl ?_
      first | refine awl_imp (imp_le 4 (x := .a (files [])) rfl (.nilSl _)) ?_ | skip
      refine r_assign rfl rfl ?_
      refine awl_nil ?_
      refine x_then ?_
      refine awp_ret ?_
      exact ⟨(.inl rfl), _, [], (.two (by first | exact .mk rfl rfl | exact .nil rfl) (by first | exact .mk rfl rfl | exact .nil rfl)), ⟨rfl, by rw [hmiss]; rfl⟩, (List.nil_sublist _), (by simp)⟩
  ·
    have hge : ms.length ≤ k := by have := of_decide_eq_false hg11; simp at this; omega
    have hmiss := at_miss1 (k := k) (by simp; omega) hno
    refine g_skip rfl rfl hg11 rfl ?_
    refine g_skip rfl rfl hg11 rfl ?_
    refine g_skip rfl rfl hg11 rfl ?_
    refine g_skip rfl rfl hg11 rfl ?_
    refine r_pickF rfl hg11 rfl rfl ?_
    refine awl_nil ?_
    refine x_then ?_
    refine awp_condF rfl ?_
    try (have hmiss := at_miss1 (k := k) (by have := of_decide_eq_false hc0; simp at this ⊢; omega) hno)
    refine awp_exit ?_
    refine x_thenE ?_
    refine x_thenE ?_
    refine x_blockE ?_
    refine x_then ?_
    refine awp_seq ?_
    refine awp_region ?_
    refine r_assign rfl rfl ?_
    first | refine awl_imp (imp_le 4 (x := .a (files [])) rfl (.nilSl _)) ?_ | skip
    refine r_assign rfl rfl ?_
    refine awl_nil ?_
    refine x_then ?_
    refine awp_ret ?_
    exact ⟨(.inl rfl), _, [], (.two (by first | exact .mk rfl rfl | exact .nil rfl) (by first | exact .mk rfl rfl | exact .nil rfl)), ⟨rfl, by rw [hmiss]; rfl⟩, (List.nil_sublist _), (by simp)⟩

theorem at_ok (ms : List Int) (ds : List Disk) : AC Try.prog 13 [numsA ms, disksA ds] [] (fun r n => n = [] ∧ r = .fn 30 [.cp [numsA ms], .cp [disksA ds]]) := by
  refine ac_of_awp (rs := [4]) (nt := 6) Try.func13 rfl rfl rfl rfl (fun w0 C0 hq => ?_)
  refine awp_seq ?_
  refine awp_region ?_
  refine r_box rfl rfl rfl (fun b2 => ?_)
  refine r_box rfl rfl rfl (fun b3 => ?_)
  refine r_assign rfl rfl ?_
  refine awl_nil ?_
  refine x_then ?_
  refine awp_seq ?_
  refine awp_region ?_
  refine awl_imp (imp_commit 0 3 rfl rfl rfl rfl) ?_
  refine awl_imp (imp_commit 0 2 rfl rfl rfl rfl) ?_
  refine r_makeFunc rfl (.cons (.ev rfl rfl) (.cons (.ev rfl rfl) .nil)) rfl ?_
  refine r_assign rfl rfl ?_
  refine awl_nil ?_
  refine x_then ?_
  refine awp_ret ?_
  exact ⟨(.inl rfl), _, [], (.one (by first | exact .mk rfl rfl | exact .nil rfl)), ⟨rfl, rfl⟩, (List.nil_sublist _), (by simp)⟩

theorem trise_ok (ms : List Int) (hml : ms.length ≤ 1000000) : AC Try.prog 31 [numsA ms] [] (fun r n => n = [] ∧ r = boolA (riseF ms)) := by
  refine ac_of_awp (rs := [2]) (nt := 20) Try.func31 rfl rfl rfl rfl (fun w0 C0 hq => ?_)
  refine awp_seq ?_
  refine awp_region ?_
  refine r_assign rfl rfl ?_
  refine awl_nil ?_
  refine x_then ?_
  refine awp_seq ?_
  refine awp_seq ?_
  refine awp_region ?_
  refine r_assign rfl rfl ?_
  refine awl_nil ?_
  refine x_then ?_
  refine awp_block ?_
  refine awp_loop (fun nn0 S => ∃ i : Nat, S = ⟨20, [(0, .a (numsA ms)), (3, .a (.v (.int .i64 ((i : Int)))))], []⟩ ∧ nn0 = ms.length - i ∧ (0 < i) ∧ (∀ j, 0 < j → j < i → ∀ x y, ms[j - 1]? = some x → ms[j]? = some y → x < y)) (ms.length - (1)) ⟨20, [(0, .a (numsA ms)), (3, .a (.v (.int .i64 (((1) : Int)))))], []⟩ ⟨rfl, (Slots.cons rfl (by first | exact .refl _ | exact .nilOwn _ _ | exact .nilSl _ | exact .ownSl _ _ _  | exact SV.le.of_eq (by simp)) (Slots.cons rfl (by first | exact .refl _ | exact .nilOwn _ _ | exact .nilSl _ | exact .ownSl _ _ _  | exact SV.le.of_eq (by simp)) Slots.nil)), (by first | exact List.Sublist.refl _ | exact .cons_cons _ (.cons _ (.refl _)) | exact List.nil_sublist _ | exact .cons _ (.refl _) | exact .cons _ (.cons _ (.refl _)) | exact .cons _ (.cons _ (.cons _ (.refl _))) | exact .cons _ (.cons _ (.cons _ (.cons _ (.refl _)))) | exact .cons_cons _ (List.nil_sublist _))⟩ ⟨1, rfl, rfl, (by omega), (fun j h1 h2 => by omega)⟩ ?_
  rintro nn0 _ ⟨i, rfl, rfl, hi1, hall⟩
  refine awp_seq ?_
  refine awp_seq ?_
  refine awp_region ?_
  refine r_move rfl rfl ?_
  refine r_move rfl rfl ?_
  first | (refine r_lenS rfl rfl TF.sl22 rfl ?_) | (refine r_lenNil rfl TF.sl22 rfl ?_) | (refine r_lenV rfl TF.sl22 rfl ?_)
  refine r_cmp rfl rfl rfl rfl ?_
  refine awl_nil ?_
  refine x_then ?_
  refine awp_cond rfl (fun hc0 => ?_) (fun hc0 => ?_)
  ·
    have hlti : i < ms.length := by have := of_decide_eq_true hc0; simp at this; omega
    obtain ⟨y, hy⟩ := get_lt hlti
    obtain ⟨x, hx⟩ := get_lt (show i - 1 < ms.length by omega)
    refine awp_skip ?_
    refine x_then ?_
    refine awp_seq ?_
    refine awp_block ?_
    refine awp_seq ?_
    refine awp_drawS [10, 11, 12, 13, 14, 15, 16, 17, 18] [_, _, _, _, _, _, _, _, _] [] [] TF.mixed rfl rfl rfl ⟨⟨⟨⟨⟨⟨⟨⟨⟨trivial
      , ⟨_, rfl, fun sl hd hr ho => by
          refine r_move (hr 0 _ rfl rfl rfl) rfl ?_
          exact awl_nil ⟨rfl, post_put⟩⟩⟩
      , ⟨_, rfl, fun sl hd hr ho => by
          refine r_move (hr 3 _ rfl rfl rfl) rfl ?_
          exact awl_nil ⟨rfl, post_put⟩⟩⟩
      , ⟨_, rfl, fun sl hd hr ho => by
          refine r_index (hd 0 _ rfl rfl rfl) rfl (hd 1 _ rfl rfl rfl) TF.sl22 TF.sz30 (by omega) (get_map hy) rfl ?_
          exact awl_nil ⟨rfl, post_put⟩⟩⟩
      , ⟨_, rfl, fun sl hd hr ho => by
          refine r_load1 (hd 2 _ rfl rfl rfl) TF.agg30 rfl ?_
          exact awl_nil ⟨rfl, post_put⟩⟩⟩
      , ⟨_, rfl, fun sl hd hr ho => by
          refine r_move (hr 0 _ rfl rfl rfl) rfl ?_
          exact awl_nil ⟨rfl, post_put⟩⟩⟩
      , ⟨_, rfl, fun sl hd hr ho => by
          refine r_move (hr 3 _ rfl rfl rfl) rfl ?_
          exact awl_nil ⟨rfl, post_put⟩⟩⟩
      , ⟨_, rfl, fun sl hd hr ho => by
          refine r_ari _ (hd 5 _ rfl rfl rfl) rfl rfl (wrap_id (by first | omega | (simp; omega))) rfl ?_
          exact awl_nil ⟨rfl, post_put⟩⟩⟩
      , ⟨_, rfl, fun sl hd hr ho => by
          refine r_index (hd 4 _ rfl rfl rfl) rfl (hd 6 _ rfl rfl rfl) TF.sl22 TF.sz30 (by omega) (by rw [show ((i : Int) - 1).toNat = i - 1 by omega]; exact get_map hx) rfl ?_
          exact awl_nil ⟨rfl, post_put⟩⟩⟩
      , ⟨_, rfl, fun sl hd hr ho => by
          refine r_load1 (hd 7 _ rfl rfl rfl) TF.agg30 rfl ?_
          exact awl_nil ⟨rfl, post_put⟩⟩⟩
      (by rfl) ?_
    refine r_cmp rfl rfl rfl rfl ?_
    refine awl_nil ?_
    refine x_then ?_
    refine awp_cond rfl (fun hc1 => ?_) (fun hc1 => ?_)
    ·
      have hbad := rise_bad hi1 hx hy (of_decide_eq_true hc1)
      refine awp_seq ?_
      refine awp_region ?_
      refine r_assign rfl rfl ?_
      refine awl_nil ?_
      refine x_then ?_
      refine awp_ret ?_
      refine x_blockR ?_
      refine x_thenR ?_
      refine x_thenR ?_
      refine x_blockR ?_
      refine x_thenR ?_
      exact ⟨(.inl rfl), _, [], (.one (by first | exact .mk rfl rfl | exact .nil rfl)), ⟨rfl, by rw [hbad]; rfl⟩, (List.nil_sublist _), (by simp)⟩
    ·
      have hlt : x < y := by have := of_decide_eq_false hc1; omega
      refine awp_skip ?_
      refine x_block ?_
      refine x_then ?_
      refine awp_region ?_
      refine r_move rfl rfl ?_
      refine r_ari _ rfl rfl rfl (wrap_id (by first | omega | (simp; omega))) rfl ?_
      refine r_assign rfl rfl ?_
      refine awl_nil ?_
      refine x_then ?_
      refine ⟨ms.length - (i + 1), ⟨20, [(0, .a (numsA ms)), (3, .a (.v (.int .i64 (((i + 1) : Int)))))], []⟩, ⟨rfl, (Slots.cons rfl (by first | exact .refl _ | exact .nilOwn _ _ | exact .nilSl _ | exact .ownSl _ _ _  | exact SV.le.of_eq (by simp)) (Slots.cons rfl (by first | exact .refl _ | exact .nilOwn _ _ | exact .nilSl _ | exact .ownSl _ _ _  | exact SV.le.of_eq (by simp)) Slots.nil)), (by first | exact List.Sublist.refl _ | exact .cons_cons _ (.cons _ (.refl _)) | exact List.nil_sublist _ | exact .cons _ (.refl _) | exact .cons _ (.cons _ (.refl _)) | exact .cons _ (.cons _ (.cons _ (.refl _))) | exact .cons _ (.cons _ (.cons _ (.cons _ (.refl _)))) | exact .cons_cons _ (List.nil_sublist _))⟩, (by omega), ⟨i + 1, rfl, rfl, (by omega), (fun j h1 h2 x' y' hx' hy' => by rcases Nat.lt_succ_iff_lt_or_eq.1 h2 with h | rfl; exact hall j h1 h x' y' hx' hy'; rw [hx] at hx'; rw [hy] at hy'; cases hx'; cases hy'; exact hlt)⟩⟩
  ·
    have hgei : ms.length ≤ i := by have := of_decide_eq_false hc0; simp at this; omega
    refine awp_exit ?_
    refine x_thenE ?_
    refine x_thenE ?_
    refine x_blockE ?_
    refine x_then ?_
    refine awp_seq ?_
    refine awp_region ?_
    refine r_assign rfl rfl ?_
    refine awl_nil ?_
    refine x_then ?_
    refine awp_ret ?_
    exact ⟨(.inl rfl), _, [], (.one (by first | exact .mk rfl rfl | exact .nil rfl)), ⟨rfl, by rw [rise_good (fun j h1 h2 => hall j h1 (by omega))]; rfl⟩, (List.nil_sublist _), (by simp)⟩

theorem rrise_ok (ms : List Int) (hml : ms.length ≤ 1000000) : AC Try.prog 16 [numsA ms] [] (fun r n => n = [] ∧ r = boolA (riseF ms)) := by
  refine ac_of_awp (rs := [2]) (nt := 20) Try.func16 rfl rfl rfl rfl (fun w0 C0 hq => ?_)
  refine awp_seq ?_
  refine awp_region ?_
  refine r_assign rfl rfl ?_
  refine awl_nil ?_
  refine x_then ?_
  refine awp_seq ?_
  refine awp_seq ?_
  refine awp_region ?_
  refine r_assign rfl rfl ?_
  refine awl_nil ?_
  refine x_then ?_
  refine awp_block ?_
  refine awp_loop (fun nn0 S => ∃ i : Nat, S = ⟨20, [(0, .a (numsA ms)), (3, .a (.v (.int .i64 ((i : Int)))))], []⟩ ∧ nn0 = ms.length - i ∧ (0 < i) ∧ (∀ j, 0 < j → j < i → ∀ x y, ms[j - 1]? = some x → ms[j]? = some y → x < y)) (ms.length - (1)) ⟨20, [(0, .a (numsA ms)), (3, .a (.v (.int .i64 (((1) : Int)))))], []⟩ ⟨rfl, (Slots.cons rfl (by first | exact .refl _ | exact .nilOwn _ _ | exact .nilSl _ | exact .ownSl _ _ _  | exact SV.le.of_eq (by simp)) (Slots.cons rfl (by first | exact .refl _ | exact .nilOwn _ _ | exact .nilSl _ | exact .ownSl _ _ _  | exact SV.le.of_eq (by simp)) Slots.nil)), (by first | exact List.Sublist.refl _ | exact .cons_cons _ (.cons _ (.refl _)) | exact List.nil_sublist _ | exact .cons _ (.refl _) | exact .cons _ (.cons _ (.refl _)) | exact .cons _ (.cons _ (.cons _ (.refl _))) | exact .cons _ (.cons _ (.cons _ (.cons _ (.refl _)))) | exact .cons_cons _ (List.nil_sublist _))⟩ ⟨1, rfl, rfl, (by omega), (fun j h1 h2 => by omega)⟩ ?_
  rintro nn0 _ ⟨i, rfl, rfl, hi1, hall⟩
  refine awp_seq ?_
  refine awp_seq ?_
  refine awp_region ?_
  refine r_move rfl rfl ?_
  refine r_move rfl rfl ?_
  first | (refine r_lenS rfl rfl TF.sl22 rfl ?_) | (refine r_lenNil rfl TF.sl22 rfl ?_) | (refine r_lenV rfl TF.sl22 rfl ?_)
  refine r_cmp rfl rfl rfl rfl ?_
  refine awl_nil ?_
  refine x_then ?_
  refine awp_cond rfl (fun hc0 => ?_) (fun hc0 => ?_)
  ·
    have hlti : i < ms.length := by have := of_decide_eq_true hc0; simp at this; omega
    obtain ⟨y, hy⟩ := get_lt hlti
    obtain ⟨x, hx⟩ := get_lt (show i - 1 < ms.length by omega)
    refine awp_skip ?_
    refine x_then ?_
    refine awp_seq ?_
    refine awp_block ?_
    refine awp_seq ?_
    refine awp_drawS [10, 11, 12, 13, 14, 15, 16, 17, 18] [_, _, _, _, _, _, _, _, _] [] [] TF.mixed rfl rfl rfl ⟨⟨⟨⟨⟨⟨⟨⟨⟨trivial
      , ⟨_, rfl, fun sl hd hr ho => by
          refine r_move (hr 0 _ rfl rfl rfl) rfl ?_
          exact awl_nil ⟨rfl, post_put⟩⟩⟩
      , ⟨_, rfl, fun sl hd hr ho => by
          refine r_move (hr 3 _ rfl rfl rfl) rfl ?_
          exact awl_nil ⟨rfl, post_put⟩⟩⟩
      , ⟨_, rfl, fun sl hd hr ho => by
          refine r_ari _ (hd 1 _ rfl rfl rfl) rfl rfl (wrap_id (by first | omega | (simp; omega))) rfl ?_
          exact awl_nil ⟨rfl, post_put⟩⟩⟩
      , ⟨_, rfl, fun sl hd hr ho => by
          refine r_index (hd 0 _ rfl rfl rfl) rfl (hd 2 _ rfl rfl rfl) TF.sl22 TF.sz30 (by omega) (by rw [show ((i : Int) - 1).toNat = i - 1 by omega]; exact get_map hx) rfl ?_
          exact awl_nil ⟨rfl, post_put⟩⟩⟩
      , ⟨_, rfl, fun sl hd hr ho => by
          refine r_load1 (hd 3 _ rfl rfl rfl) TF.agg30 rfl ?_
          exact awl_nil ⟨rfl, post_put⟩⟩⟩
      , ⟨_, rfl, fun sl hd hr ho => by
          refine r_move (hr 0 _ rfl rfl rfl) rfl ?_
          exact awl_nil ⟨rfl, post_put⟩⟩⟩
      , ⟨_, rfl, fun sl hd hr ho => by
          refine r_move (hr 3 _ rfl rfl rfl) rfl ?_
          exact awl_nil ⟨rfl, post_put⟩⟩⟩
      , ⟨_, rfl, fun sl hd hr ho => by
          refine r_index (hd 5 _ rfl rfl rfl) rfl (hd 6 _ rfl rfl rfl) TF.sl22 TF.sz30 (by omega) (get_map hy) rfl ?_
          exact awl_nil ⟨rfl, post_put⟩⟩⟩
      , ⟨_, rfl, fun sl hd hr ho => by
          refine r_load1 (hd 7 _ rfl rfl rfl) TF.agg30 rfl ?_
          exact awl_nil ⟨rfl, post_put⟩⟩⟩
      (by rfl) ?_
    refine r_cmp rfl rfl rfl rfl ?_
    refine awl_nil ?_
    refine x_then ?_
    refine awp_cond rfl (fun hc1 => ?_) (fun hc1 => ?_)
    ·
      have hbad := rise_bad hi1 hx hy (of_decide_eq_true hc1)
      refine awp_seq ?_
      refine awp_region ?_
      refine r_assign rfl rfl ?_
      refine awl_nil ?_
      refine x_then ?_
      refine awp_ret ?_
      refine x_blockR ?_
      refine x_thenR ?_
      refine x_thenR ?_
      refine x_blockR ?_
      refine x_thenR ?_
      exact ⟨(.inl rfl), _, [], (.one (by first | exact .mk rfl rfl | exact .nil rfl)), ⟨rfl, by rw [hbad]; rfl⟩, (List.nil_sublist _), (by simp)⟩
    ·
      have hlt : x < y := by have := of_decide_eq_false hc1; omega
      refine awp_skip ?_
      refine x_block ?_
      refine x_then ?_
      refine awp_region ?_
      refine r_move rfl rfl ?_
      refine r_ari _ rfl rfl rfl (wrap_id (by first | omega | (simp; omega))) rfl ?_
      refine r_assign rfl rfl ?_
      refine awl_nil ?_
      refine x_then ?_
      refine ⟨ms.length - (i + 1), ⟨20, [(0, .a (numsA ms)), (3, .a (.v (.int .i64 (((i + 1) : Int)))))], []⟩, ⟨rfl, (Slots.cons rfl (by first | exact .refl _ | exact .nilOwn _ _ | exact .nilSl _ | exact .ownSl _ _ _  | exact SV.le.of_eq (by simp)) (Slots.cons rfl (by first | exact .refl _ | exact .nilOwn _ _ | exact .nilSl _ | exact .ownSl _ _ _  | exact SV.le.of_eq (by simp)) Slots.nil)), (by first | exact List.Sublist.refl _ | exact .cons_cons _ (.cons _ (.refl _)) | exact List.nil_sublist _ | exact .cons _ (.refl _) | exact .cons _ (.cons _ (.refl _)) | exact .cons _ (.cons _ (.cons _ (.refl _))) | exact .cons _ (.cons _ (.cons _ (.cons _ (.refl _)))) | exact .cons_cons _ (List.nil_sublist _))⟩, (by omega), ⟨i + 1, rfl, rfl, (by omega), (fun j h1 h2 x' y' hx' hy' => by rcases Nat.lt_succ_iff_lt_or_eq.1 h2 with h | rfl; exact hall j h1 h x' y' hx' hy'; rw [hx] at hx'; rw [hy] at hy'; cases hx'; cases hy'; exact hlt)⟩⟩
  ·
    have hgei : ms.length ≤ i := by have := of_decide_eq_false hc0; simp at this; omega
    refine awp_exit ?_
    refine x_thenE ?_
    refine x_thenE ?_
    refine x_blockE ?_
    refine x_then ?_
    refine awp_seq ?_
    refine awp_region ?_
    refine r_assign rfl rfl ?_
    refine awl_nil ?_
    refine x_then ?_
    refine awp_ret ?_
    exact ⟨(.inl rfl), _, [], (.one (by first | exact .mk rfl rfl | exact .nil rfl)), ⟨rfl, by rw [rise_good (fun j h1 h2 => hall j h1 (by omega))]; rfl⟩, (List.nil_sublist _), (by simp)⟩

theorem great_ok (ms : List Int) (ds : List Disk) : AC Try.prog 12 [numsA ms, disksA ds] [] (fun r n => n = [] ∧ (r = .v (.int .i64 1) ∨ (r = .v (.int .i64 0) ∧ ms.length ≤ 12 ∧ ds.length ≤ 12))) := by
  refine ac_of_awp (rs := [4]) (nt := 13) Try.func12 rfl rfl rfl rfl (fun w0 C0 hq => ?_)
  refine awp_seq ?_
  refine awp_region ?_
  refine r_assign rfl rfl ?_
  refine awl_nil ?_
  refine x_then ?_
  refine awp_seq ?_
  refine awp_seq ?_
  refine awp_region ?_
  refine r_move rfl rfl ?_
  first | (refine r_lenS rfl rfl TF.sl22 rfl ?_) | (refine r_lenNil rfl TF.sl22 rfl ?_) | (refine r_lenV rfl TF.sl22 rfl ?_)
  refine r_cmp rfl rfl rfl rfl ?_
  refine r_move rfl rfl ?_
  refine g_cases (t' := 8) rfl (fun hg8 => ?_) (fun hg8 => ?_)
  ·
    refine g_skip rfl rfl hg8 rfl ?_
    refine g_skip rfl rfl hg8 rfl ?_
    refine g_skip rfl rfl hg8 rfl ?_
    refine r_pickT rfl hg8 rfl rfl ?_
    refine awl_nil ?_
    refine x_then ?_
    refine awp_condT rfl ?_
    refine awp_seq ?_
    refine awp_region ?_
    refine r_assign rfl rfl ?_
    refine awl_nil ?_
    refine x_then ?_
    refine awp_ret ?_
    refine x_thenR ?_
    exact ⟨(.inl rfl), _, [], (.one (by first | exact .mk rfl rfl | exact .nil rfl)), ⟨rfl, by first | exact .inl rfl | exact .inr ⟨rfl, h1, h2⟩⟩, (List.nil_sublist _), (by simp)⟩
  ·
    refine g_run rfl rfl hg8 ?_
    refine r_move rfl rfl ?_
    refine g_run rfl rfl hg8 ?_
    first | (refine r_lenS rfl rfl TF.sl23 rfl ?_) | (refine r_lenNil rfl TF.sl23 rfl ?_) | (refine r_lenV rfl TF.sl23 rfl ?_)
    refine g_run rfl rfl hg8 ?_
    refine r_cmp rfl rfl rfl rfl ?_
    refine r_pickF rfl hg8 rfl rfl ?_
    refine awl_nil ?_
    refine x_then ?_
    refine awp_cond rfl (fun hc0 => ?_) (fun hc0 => ?_)
    ·
      refine awp_seq ?_
      refine awp_region ?_
      refine r_assign rfl rfl ?_
      refine awl_nil ?_
      refine x_then ?_
      refine awp_ret ?_
      refine x_thenR ?_
      exact ⟨(.inl rfl), _, [], (.one (by first | exact .mk rfl rfl | exact .nil rfl)), ⟨rfl, by first | exact .inl rfl | exact .inr ⟨rfl, h1, h2⟩⟩, (List.nil_sublist _), (by simp)⟩
    ·
      have h1 : ms.length ≤ 12 := by have := of_decide_eq_false hg8; simp at this; omega
      have h2 : ds.length ≤ 12 := by have := of_decide_eq_false hc0; simp at this; omega
      refine awp_skip ?_
      refine x_then ?_
      refine awp_seq ?_
      refine awp_region ?_
      refine r_assign rfl rfl ?_
      refine awl_nil ?_
      refine x_then ?_
      refine awp_ret ?_
      exact ⟨(.inl rfl), _, [], (.one (by first | exact .mk rfl rfl | exact .nil rfl)), ⟨rfl, by first | exact .inl rfl | exact .inr ⟨rfl, h1, h2⟩⟩, (List.nil_sublist _), (by simp)⟩

end Go.Proofs.Ytmbfmnhcahhciaa.A

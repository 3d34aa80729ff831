/- Layers 31 and 32: the statement's walk. -/
import Derived.Test.YtcgjgnkpebpimaaProg
import Derived.KernelRfl
import Derived.Test.YtcgjgnkpebpimaaX31C
import Derived.Test.YtcgjgnkpebpimaaX31D
import Derived.Test.YtcgjgnkpebpimaaX32H
namespace Go.Proofs.Ytcgjgnkpebpimaa.A
open Go Go.RowKit
set_option linter.unusedVariables false
set_option linter.unusedSimpArgs false
set_option maxRecDepth 100000

theorem TD.en11 : entersT Try.prog 11 := enters_of Try.func11 (by kernel_rfl) (by kernel_rfl)
theorem TD.sl44 : sliceT Try.prog 44 = some 22 := by kernel_rfl
theorem TD.sz22 : szT Try.prog 22 = some 1 := by kernel_rfl
theorem TD.zraw22 : zeroT Try.prog 22 = some [(.slice none 0 0)] := by kernel_rfl
theorem TD.en12 : entersT Try.prog 12 := enters_of Try.func12 (by kernel_rfl) (by kernel_rfl)
theorem TD.en13 : entersT Try.prog 13 := enters_of Try.func13 (by kernel_rfl) (by kernel_rfl)
theorem TD.sl26 : sliceT Try.prog 26 = some 37 := by kernel_rfl
theorem TD.en22 : entersT Try.prog 22 := enters_of Try.func22 (by kernel_rfl) (by kernel_rfl)
theorem TD.en20 : entersT Try.prog 20 := enters_of Try.func20 (by kernel_rfl) (by kernel_rfl)
theorem TD.en23 : entersT Try.prog 23 := enters_of Try.func23 (by kernel_rfl) (by kernel_rfl)
theorem TD.en16 : entersT Try.prog 16 := enters_of Try.func16 (by kernel_rfl) (by kernel_rfl)

set_option maxHeartbeats 1000000 in
theorem diff_law (base ours theirs : List Ent) (hgb : Good base) (hgo : Good ours) (hgt : Good theirs) : AC Try.prog 10 [entsA base, entsA ours, entsA theirs] [] (fun r n => n = [] ∧ r = bA true) := by
  refine ac_of_awp (rs := [6]) (nt := 106) Try.func10 rfl rfl rfl rfl (fun w0 C0 hq => ?_)
  refine awp_seq ?_
  refine awp_region ?_
  refine r_assign rfl rfl ?_
  refine awl_nil ?_
  refine x_then ?_
  refine awp_seq ?_
  refine awp_seq ?_
  refine awp_region ?_
  refine r_call0 hq rfl rfl .nil (awake_ok) rfl TD.en11 rfl (fun r hr => ?_)
  obtain rfl := hr
  refine r_not rfl rfl ?_
  refine awl_nil ?_
  refine x_then ?_
  refine awp_cond rfl (fun hc0 => ?_) (fun hc0 => ?_)
  ·
    exfalso; exact absurd hc0 (by decide)
  ·
    refine awp_skip ?_
    refine x_then ?_
    refine awp_seq ?_
    refine awp_seq ?_
    refine awp_region ?_
    refine r_move rfl rfl ?_
    refine r_move rfl rfl ?_
    refine r_move rfl rfl ?_
    refine r_lit 19 (parts := [(0, .tmp 16), (1, .tmp 17), (2, .tmp 18)]) rfl TD.sl44 TD.sz22 TD.zraw22 rfl rfl rfl rfl rfl rfl rfl ?_
    refine r_call0 hq rfl rfl (.cons (.ev rfl rfl) .nil) (great_ok [base, ours, theirs] (by simp)) rfl TD.en12 rfl (fun r hr => ?_)
    rcases hr with rfl | ⟨rfl, hle⟩
    
    ·
      refine r_cmp rfl rfl rfl rfl ?_
      refine awl_nil ?_
      refine x_then ?_
      refine awp_condT rfl ?_
      refine awp_seq ?_
      refine awp_region ?_
      refine r_assign rfl rfl ?_
      refine awl_nil ?_
      refine x_then ?_
      refine awp_ret ?_
      refine x_thenR ?_
      exact ⟨(.inl rfl), _, [], (.one (by first | exact .mk rfl rfl | exact .nil rfl)), ⟨rfl, rfl⟩, (List.nil_sublist _), (by simp)⟩
    ·
      have hlbase : base.length ≤ 20 := hle base (by simp)
      have hlours : ours.length ≤ 20 := hle ours (by simp)
      have hltheirs : theirs.length ≤ 20 := hle theirs (by simp)
      refine r_cmp rfl rfl rfl rfl ?_
      refine awl_nil ?_
      refine x_then ?_
      refine awp_condF rfl ?_
      refine awp_skip ?_
      refine x_then ?_
      refine awp_seq ?_
      refine awp_region ?_
      refine r_move rfl rfl ?_
      refine r_move rfl rfl ?_
      refine r_move rfl rfl ?_
      refine r_call0 hq rfl rfl (.cons (.ev rfl rfl) (.cons (.ev rfl rfl) (.cons (.ev rfl rfl) (.cons (.ev rfl rfl) .nil)))) (three_ok .nil base ours theirs (by omega) (by omega) (by omega) hgb hgo hgt) rfl TD.en13 rfl (fun r hr => ?_)
      obtain rfl := hr
      have htl := take_len (fun _ _ => false) base ours theirs
      generalize clashF (fun _ _ => false) base ours theirs = cs
      rcases cs with _ | ⟨c0, cr⟩
      ·
        refine r_move rfl rfl ?_
        refine r_extract rfl rfl rfl ?_
        refine r_extract rfl rfl rfl ?_
        refine r_assign rfl rfl ?_
        refine r_assign rfl rfl ?_
        refine awl_nil ?_
        refine x_then ?_
        refine awp_seq ?_
        refine awp_seq ?_
        refine awp_region ?_
        refine r_move rfl rfl ?_
        first | (refine r_lenS rfl rfl TD.sl26 rfl ?_) | (refine r_lenNil rfl TD.sl26 rfl ?_)
        refine r_cmp rfl rfl rfl rfl ?_
        refine r_move rfl rfl ?_
        refine g_run rfl rfl (by simp) ?_
        refine r_move rfl rfl ?_
        refine g_run rfl rfl (by simp) ?_
        first | (refine r_lenS rfl rfl TD.sl22 rfl ?_) | (refine r_lenNil rfl TD.sl22 rfl ?_)
        refine g_run rfl rfl (by simp) ?_
        refine r_cmp rfl rfl rfl rfl ?_
        refine r_pickF rfl (by simp) rfl rfl ?_
        refine awl_nil ?_
        refine x_then ?_
        refine awp_cond rfl (fun hc2 => ?_) (fun hc2 => ?_)
        ·
          exfalso; have := of_decide_eq_true hc2; simp at this; omega
        ·
          refine awp_skip ?_
          refine x_then ?_
          refine awp_seq ?_
          refine awp_region ?_
          refine r_assign rfl rfl ?_
          refine awl_nil ?_
          refine x_then ?_
          refine awp_seq ?_
          refine awp_region ?_
          refine r_move rfl rfl ?_
          refine r_move rfl rfl ?_
          refine r_call0 hq rfl rfl (.cons (.ev rfl rfl) (.cons (.ev rfl rfl) .nil)) (entries_ok base theirs (by omega) (by omega)) rfl TD.en22 rfl (fun r hr => ?_)
          obtain rfl := hr
          obtain ⟨all, hall⟩ : ∃ all, all = entriesF base theirs := ⟨_, rfl⟩
          have hal := entries_len base theirs
          rw [← hall] at hal ⊢
          refine r_assign rfl rfl ?_
          refine awl_nil ?_
          refine x_then ?_
          refine awp_seq ?_
          refine awp_seq ?_
          refine awp_region ?_
          refine r_assign rfl rfl ?_
          refine awl_nil ?_
          refine x_then ?_
          refine awp_block ?_
          refine awp_loop (fun nn0 S => ∃ k : Nat, S = ⟨106, [(1, .a (entsA ours)), (7, .a (entsA (takeF (fun _ _ => false) base ours theirs))), (9, .own 9 4 (((all.take k).filter (selO ours)).map Chg.cs)), (10, .a (chgsA all)), (11, .a (.v (.int .i64 ((k : Int)))))], []⟩ ∧ nn0 = all.length - k ∧ (k ≤ all.length)) (all.length - (0)) ⟨106, [(1, .a (entsA ours)), (7, .a (entsA (takeF (fun _ _ => false) base ours theirs))), (9, .own 9 4 (((all.take (0)).filter (selO ours)).map Chg.cs)), (10, .a (chgsA all)), (11, .a (.v (.int .i64 (((0) : Int)))))], []⟩ ⟨rfl, (Slots.cons rfl (by first | exact .refl _ | exact .nilOwn _ _ | exact .nilSl _ | exact .ownSl _ _ _  | exact SV.le.of_eq (by simp)) (Slots.cons rfl (by first | exact .refl _ | exact .nilOwn _ _ | exact .nilSl _ | exact .ownSl _ _ _  | exact SV.le.of_eq (by simp)) (Slots.cons rfl (by first | exact .refl _ | exact .nilOwn _ _ | exact .nilSl _ | exact .ownSl _ _ _  | exact SV.le.of_eq (by simp)) (Slots.cons rfl (by first | exact .refl _ | exact .nilOwn _ _ | exact .nilSl _ | exact .ownSl _ _ _  | exact SV.le.of_eq (by simp)) (Slots.cons rfl (by first | exact .refl _ | exact .nilOwn _ _ | exact .nilSl _ | exact .ownSl _ _ _  | exact SV.le.of_eq (by simp)) Slots.nil))))), (by first | exact List.Sublist.refl _ | exact .cons_cons _ (.cons _ (.refl _)) | exact List.nil_sublist _ | exact .cons _ (.refl _) | exact .cons _ (.cons _ (.refl _)) | exact .cons _ (.cons _ (.cons _ (.refl _))) | exact .cons _ (.cons _ (.cons _ (.cons _ (.refl _)))) | exact .cons_cons _ (List.nil_sublist _))⟩ ⟨0, rfl, rfl, Nat.zero_le _⟩ ?_
          rintro nn0 _ ⟨k, rfl, rfl, hk⟩
          refine awp_seq ?_
          refine awp_seq ?_
          refine awp_region ?_
          refine r_move rfl rfl ?_
          refine r_move rfl rfl ?_
          first | (refine r_lenS rfl rfl TD.sl47 rfl ?_) | (refine r_lenNil rfl TD.sl47 rfl ?_)
          refine r_cmp rfl rfl rfl rfl ?_
          refine r_move rfl rfl ?_
          refine g_cases (t' := 47) rfl (fun hg47 => ?_) (fun hg47 => ?_)
          ·
            have hltx : k < all.length := by have := of_decide_eq_true hg47; simpa using this
            obtain ⟨x, hx⟩ := get_lt hltx
            have hf : ((all.take k).filter (selO ours)).length ≤ k := Nat.le_trans (List.length_filter_le _ _) (by simp; omega)
            refine g_run rfl rfl hg47 ?_
            refine r_move rfl rfl ?_
            refine g_run rfl rfl hg47 ?_
            refine r_cmp rfl rfl rfl rfl ?_
            refine r_pickT rfl hg47 rfl rfl ?_
            refine awl_nil ?_
            refine x_then ?_
            refine awp_cond rfl (fun hc3 => ?_) (fun hc3 => ?_)
            ·
              refine awp_skip ?_
              refine x_then ?_
              refine awp_seq ?_
              refine awp_block ?_
              refine awp_seq ?_
              refine awp_drawS [53, 54, 55, 56, 57, 58, 59, 60, 61, 62, 63, 64, 65, 66, 67, 68, 69] [_, _, _, _, _, _, _, _, _, _, _, _, _, _, _, _, _] [] [] TD.mixed rfl rfl rfl ⟨⟨⟨⟨⟨⟨⟨⟨⟨⟨⟨⟨⟨⟨⟨⟨⟨trivial
                , ⟨_, rfl, fun sl hd hr ho => by
                    refine r_move (hr 1 _ rfl rfl rfl) rfl ?_
                    exact awl_nil ⟨rfl, post_put⟩⟩⟩
                , ⟨_, rfl, fun sl hd hr ho => by
                    refine r_move (hr 10 _ rfl rfl rfl) rfl ?_
                    exact awl_nil ⟨rfl, post_put⟩⟩⟩
                , ⟨_, rfl, fun sl hd hr ho => by
                    refine r_move (hr 11 _ rfl rfl rfl) rfl ?_
                    exact awl_nil ⟨rfl, post_put⟩⟩⟩
                , ⟨_, rfl, fun sl hd hr ho => by
                    refine r_index (hd 1 _ rfl rfl rfl) rfl (hd 2 _ rfl rfl rfl) TD.sl47 TD.sz50 (by omega) (get_map hx) rfl ?_
                    exact awl_nil ⟨rfl, post_put⟩⟩⟩
                , ⟨_, rfl, fun sl hd hr ho => by
                    first | (refine r_fieldcp (hd 3 _ rfl rfl rfl) TD.f50_0 TD.sz3 rfl ?_) | (refine r_fieldb (hd 3 _ rfl rfl rfl) TD.f50_0 TD.sz3 rfl ?_)
                    exact awl_nil ⟨rfl, post_put⟩⟩⟩
                , ⟨_, rfl, fun sl hd hr ho => by
                    refine r_load1 (hd 4 _ rfl rfl rfl) TD.agg3 rfl ?_
                    exact awl_nil ⟨rfl, post_put⟩⟩⟩
                , ⟨_, rfl, fun sl hd hr ho => by
                    refine r_move (hr 10 _ rfl rfl rfl) rfl ?_
                    exact awl_nil ⟨rfl, post_put⟩⟩⟩
                , ⟨_, rfl, fun sl hd hr ho => by
                    refine r_move (hr 11 _ rfl rfl rfl) rfl ?_
                    exact awl_nil ⟨rfl, post_put⟩⟩⟩
                , ⟨_, rfl, fun sl hd hr ho => by
                    refine r_index (hd 6 _ rfl rfl rfl) rfl (hd 7 _ rfl rfl rfl) TD.sl47 TD.sz50 (by omega) (get_map hx) rfl ?_
                    exact awl_nil ⟨rfl, post_put⟩⟩⟩
                , ⟨_, rfl, fun sl hd hr ho => by
                    first | (refine r_fieldcp (hd 8 _ rfl rfl rfl) TD.f50_1 TD.sz3 rfl ?_) | (refine r_fieldb (hd 8 _ rfl rfl rfl) TD.f50_1 TD.sz3 rfl ?_)
                    exact awl_nil ⟨rfl, post_put⟩⟩⟩
                , ⟨_, rfl, fun sl hd hr ho => by
                    refine r_load1 (hd 9 _ rfl rfl rfl) TD.agg3 rfl ?_
                    exact awl_nil ⟨rfl, post_put⟩⟩⟩
                , ⟨_, rfl, fun sl hd hr ho => by
                    refine r_call0 hq rfl rfl (.cons (.ev (hd 0 _ rfl rfl rfl) rfl) (.cons (.ev (hd 5 _ rfl rfl rfl) rfl) (.cons (.ev (hd 10 _ rfl rfl rfl) rfl) .nil))) (shows_ok ours x.vol x.blk (by omega)) rfl TD.en20 rfl (fun r hr => ?_)
                    obtain rfl := hr
                    exact awl_nil ⟨rfl, post_put⟩⟩⟩
                , ⟨_, rfl, fun sl hd hr ho => by
                    refine r_move (hr 10 _ rfl rfl rfl) rfl ?_
                    exact awl_nil ⟨rfl, post_put⟩⟩⟩
                , ⟨_, rfl, fun sl hd hr ho => by
                    refine r_move (hr 11 _ rfl rfl rfl) rfl ?_
                    exact awl_nil ⟨rfl, post_put⟩⟩⟩
                , ⟨_, rfl, fun sl hd hr ho => by
                    refine r_index (hd 12 _ rfl rfl rfl) rfl (hd 13 _ rfl rfl rfl) TD.sl47 TD.sz50 (by omega) (get_map hx) rfl ?_
                    exact awl_nil ⟨rfl, post_put⟩⟩⟩
                , ⟨_, rfl, fun sl hd hr ho => by
                    first | (refine r_fieldcp (hd 14 _ rfl rfl rfl) TD.f50_2 TD.sz23 rfl ?_) | (refine r_fieldb (hd 14 _ rfl rfl rfl) TD.f50_2 TD.sz23 rfl ?_)
                    exact awl_nil ⟨rfl, post_put⟩⟩⟩
                , ⟨_, rfl, fun sl hd hr ho => by
                    refine r_load1 (hd 15 _ rfl rfl rfl) TD.agg23 rfl ?_
                    exact awl_nil ⟨rfl, post_put⟩⟩⟩
                (by rfl) ?_
              refine r_cmp rfl rfl rfl rfl ?_
              refine awl_nil ?_
              refine x_then ?_
              refine awp_cond rfl (fun hc4 => ?_) (fun hc4 => ?_)
              ·
                have hsel : selO ours x = true := decide_eq_true (eq_of_beq hc4)
                refine awp_region ?_
                refine r_move rfl rfl ?_
                refine r_move rfl rfl ?_
                refine r_move rfl rfl ?_
                refine r_index rfl rfl rfl TD.sl47 TD.sz50 (by omega) (get_map hx) rfl ?_
                refine r_loadA rfl TD.agg50 TD.sz50 rfl rfl ?_
                refine r_lit 76 (parts := [(0, .tmp 75)]) rfl TD.sl47 TD.sz50 TD.zraw50 rfl rfl rfl rfl rfl rfl rfl ?_
                refine r_append 9 rfl (by first | exact .own _ | exact .nil) rfl (by first | exact .sl _ | exact .own _ _ | exact .nil) TD.sl47 TD.sz50 (by decide) TD.by50 TD.zlen50 (by simp [chunks] <;> omega) (by simp [chunks] <;> omega) rfl ?_
                refine r_assign rfl rfl ?_
                refine awl_nil ?_
                refine x_block ?_
                refine x_then ?_
                refine awp_region ?_
                refine r_move rfl rfl ?_
                refine r_ari _ rfl rfl rfl (wrap_id (by first | omega | (simp; omega))) rfl ?_
                refine r_assign rfl rfl ?_
                refine awl_nil ?_
                refine x_then ?_
                have et := filt_step (p := selO ours) hx
                rw [hsel] at et
                simp only [if_true, Bool.false_eq_true, if_false, List.append_nil] at et
                refine ⟨all.length - (k + 1), ⟨106, [(1, .a (entsA ours)), (7, .a (entsA (takeF (fun _ _ => false) base ours theirs))), (9, .own 9 4 (((all.take (k + 1)).filter (selO ours)).map Chg.cs)), (10, .a (chgsA all)), (11, .a (.v (.int .i64 (((k + 1) : Int)))))], []⟩, ⟨rfl, (Slots.cons rfl (by first | exact .refl _ | exact .nilOwn _ _ | exact .nilSl _ | exact .ownSl _ _ _  | exact SV.le.ownEq (by first | rfl | (rw [et, List.map_append]; rfl) | (rw [et]; first | done | rfl)) | exact SV.le.of_eq (by first | rfl | (rw [et, List.map_append]; rfl) | (rw [et]; first | done | rfl))) (Slots.cons rfl (by first | exact .refl _ | exact .nilOwn _ _ | exact .nilSl _ | exact .ownSl _ _ _  | exact SV.le.ownEq (by first | rfl | (rw [et, List.map_append]; rfl) | (rw [et]; first | done | rfl)) | exact SV.le.of_eq (by first | rfl | (rw [et, List.map_append]; rfl) | (rw [et]; first | done | rfl))) (Slots.cons rfl (by first | exact .refl _ | exact .nilOwn _ _ | exact .nilSl _ | exact .ownSl _ _ _  | exact SV.le.ownEq (by first | rfl | (rw [et, List.map_append]; rfl) | (rw [et]; first | done | rfl)) | exact SV.le.of_eq (by first | rfl | (rw [et, List.map_append]; rfl) | (rw [et]; first | done | rfl))) (Slots.cons rfl (by first | exact .refl _ | exact .nilOwn _ _ | exact .nilSl _ | exact .ownSl _ _ _  | exact SV.le.ownEq (by first | rfl | (rw [et, List.map_append]; rfl) | (rw [et]; first | done | rfl)) | exact SV.le.of_eq (by first | rfl | (rw [et, List.map_append]; rfl) | (rw [et]; first | done | rfl))) (Slots.cons rfl (by first | exact .refl _ | exact .nilOwn _ _ | exact .nilSl _ | exact .ownSl _ _ _  | exact SV.le.ownEq (by first | rfl | (rw [et, List.map_append]; rfl) | (rw [et]; first | done | rfl)) | exact SV.le.of_eq (by first | rfl | (rw [et, List.map_append]; rfl) | (rw [et]; first | done | rfl))) Slots.nil))))), (by first | exact List.Sublist.refl _ | exact .cons_cons _ (.cons _ (.refl _)) | exact List.nil_sublist _ | exact .cons _ (.refl _) | exact .cons _ (.cons _ (.refl _)) | exact .cons _ (.cons _ (.cons _ (.refl _))) | exact .cons _ (.cons _ (.cons _ (.cons _ (.refl _)))) | exact .cons_cons _ (List.nil_sublist _))⟩, (by omega), ⟨k + 1, rfl, rfl, (by omega)⟩⟩
              ·
                have hsel : selO ours x = false := decide_eq_false (show ¬ shows ours (x.vol, x.blk) = x.a by simpa using hc4)
                refine awp_skip ?_
                refine x_block ?_
                refine x_then ?_
                refine awp_region ?_
                refine r_move rfl rfl ?_
                refine r_ari _ rfl rfl rfl (wrap_id (by first | omega | (simp; omega))) rfl ?_
                refine r_assign rfl rfl ?_
                refine awl_nil ?_
                refine x_then ?_
                have et := filt_step (p := selO ours) hx
                rw [hsel] at et
                simp only [if_true, Bool.false_eq_true, if_false, List.append_nil] at et
                refine ⟨all.length - (k + 1), ⟨106, [(1, .a (entsA ours)), (7, .a (entsA (takeF (fun _ _ => false) base ours theirs))), (9, .own 9 4 (((all.take (k + 1)).filter (selO ours)).map Chg.cs)), (10, .a (chgsA all)), (11, .a (.v (.int .i64 (((k + 1) : Int)))))], []⟩, ⟨rfl, (Slots.cons rfl (by first | exact .refl _ | exact .nilOwn _ _ | exact .nilSl _ | exact .ownSl _ _ _  | exact SV.le.ownEq (by first | rfl | (rw [et, List.map_append]; rfl) | (rw [et]; first | done | rfl)) | exact SV.le.of_eq (by first | rfl | (rw [et, List.map_append]; rfl) | (rw [et]; first | done | rfl))) (Slots.cons rfl (by first | exact .refl _ | exact .nilOwn _ _ | exact .nilSl _ | exact .ownSl _ _ _  | exact SV.le.ownEq (by first | rfl | (rw [et, List.map_append]; rfl) | (rw [et]; first | done | rfl)) | exact SV.le.of_eq (by first | rfl | (rw [et, List.map_append]; rfl) | (rw [et]; first | done | rfl))) (Slots.cons rfl (by first | exact .refl _ | exact .nilOwn _ _ | exact .nilSl _ | exact .ownSl _ _ _  | exact SV.le.ownEq (by first | rfl | (rw [et, List.map_append]; rfl) | (rw [et]; first | done | rfl)) | exact SV.le.of_eq (by first | rfl | (rw [et, List.map_append]; rfl) | (rw [et]; first | done | rfl))) (Slots.cons rfl (by first | exact .refl _ | exact .nilOwn _ _ | exact .nilSl _ | exact .ownSl _ _ _  | exact SV.le.ownEq (by first | rfl | (rw [et, List.map_append]; rfl) | (rw [et]; first | done | rfl)) | exact SV.le.of_eq (by first | rfl | (rw [et, List.map_append]; rfl) | (rw [et]; first | done | rfl))) (Slots.cons rfl (by first | exact .refl _ | exact .nilOwn _ _ | exact .nilSl _ | exact .ownSl _ _ _  | exact SV.le.ownEq (by first | rfl | (rw [et, List.map_append]; rfl) | (rw [et]; first | done | rfl)) | exact SV.le.of_eq (by first | rfl | (rw [et, List.map_append]; rfl) | (rw [et]; first | done | rfl))) Slots.nil))))), (by first | exact List.Sublist.refl _ | exact .cons_cons _ (.cons _ (.refl _)) | exact List.nil_sublist _ | exact .cons _ (.refl _) | exact .cons _ (.cons _ (.refl _)) | exact .cons _ (.cons _ (.cons _ (.refl _))) | exact .cons _ (.cons _ (.cons _ (.cons _ (.refl _)))) | exact .cons_cons _ (List.nil_sublist _))⟩, (by omega), ⟨k + 1, rfl, rfl, (by omega)⟩⟩
            ·
              exfalso; have := of_decide_eq_false hc3; simp at this; omega
          ·
            have hge : all.length ≤ k := by have := of_decide_eq_false hg47; simp at this; omega
            have hkl : all.take k = all := List.take_of_length_le hge
            refine g_skip rfl rfl hg47 rfl ?_
            refine g_skip rfl rfl hg47 rfl ?_
            refine r_pickF rfl hg47 rfl rfl ?_
            refine awl_nil ?_
            refine x_then ?_
            refine awp_condF rfl ?_
            refine awp_exit ?_
            refine x_thenE ?_
            refine x_thenE ?_
            refine x_blockE ?_
            refine x_then ?_
            refine awp_seq ?_
            refine awp_region ?_
            refine r_move rfl rfl ?_
            refine r_move rfl rfl ?_
            refine r_call0 hq rfl rfl (.cons (.ev rfl rfl) (.cons (.ev rfl rfl) .nil)) (apply_ok ours ((all.take k).filter (selO ours)) (by omega) (by have := List.length_filter_le (selO ours) (all.take k); simp at this; omega)) rfl TD.en23 rfl (fun r hr => ?_)
            obtain ⟨l', hl1, hsh⟩ := md_apply base ours theirs
            rw [hkl, hall] at hr
            have hl'n := apply_len hl1
            have hdl := List.length_filter_le (selO ours) (entriesF base theirs)
            rw [← hall] at hl'n hdl
            obtain rfl : r = .tup [entsA (cleanF l'), .v (.int .i64 0)] := by
              rcases hr with ⟨l2, h1, h2⟩ | ⟨h1, _⟩
              · rw [hl1] at h1; cases h1; exact h2
              · rw [hl1] at h1; cases h1
            have hcn := clean_len l'
            refine r_move rfl rfl ?_
            refine r_extract rfl rfl rfl ?_
            refine r_extract rfl rfl rfl ?_
            refine r_assign rfl rfl ?_
            refine r_assign rfl rfl ?_
            refine awl_nil ?_
            refine x_then ?_
            refine awp_seq ?_
            refine awp_region ?_
            refine r_move rfl rfl ?_
            refine r_cmp rfl rfl rfl rfl ?_
            refine r_move rfl rfl ?_
            refine g_run rfl rfl rfl ?_
            refine r_move rfl rfl ?_
            refine g_run rfl rfl rfl ?_
            refine r_lit 88 (parts := []) rfl TD.sl22 TD.sz35 TD.zraw35 rfl rfl rfl rfl rfl rfl rfl ?_
            refine g_run rfl rfl rfl ?_
            refine r_move rfl rfl ?_
            refine g_run rfl rfl rfl ?_
            refine r_append 88 rfl (by first | exact .own _ | exact .nil) rfl (by first | exact .sl _ | exact .own _ _ | exact .nil) TD.sl22 TD.sz35 (by decide) TD.by35 TD.zlen35 (by simp [chunks]; omega) (by simp [chunks]; omega) rfl ?_
            refine g_run rfl rfl rfl ?_
            refine r_move rfl rfl ?_
            refine g_run rfl rfl rfl ?_
            refine r_append 88 rfl (by first | exact .own _ | exact .nil) rfl (by first | exact .sl _ | exact .own _ _ | exact .nil) TD.sl22 TD.sz35 (by decide) TD.by35 TD.zlen35 (by simp [chunks]; omega) (by simp [chunks]; omega) rfl ?_
            refine g_run rfl rfl rfl ?_
            refine awl_imp (imp_le 92 (x := .a (entsA ((takeF (fun _ _ => false) base ours theirs) ++ ours))) rfl (.ownEq (by simp [chunks]))) ?_
            refine r_call0 hq rfl rfl (.cons (.ev rfl rfl) (.cons (.ev rfl rfl) (.cons (.ev rfl rfl) .nil))) (same_ok .nil rfl rfl (cleanF l') ((takeF (fun _ _ => false) base ours theirs) ++ ours) (by omega) (by simp; omega) (md_good hsh (over_good hgo hgt)) (over_good hgo hgt)) rfl TD.en16 rfl (fun r hr => ?_)
            obtain rfl := hr
            rw [md_same hsh]
            refine r_pickT rfl rfl rfl rfl ?_
            refine r_move rfl rfl ?_
            refine g_run rfl rfl rfl ?_
            refine r_move rfl rfl ?_
            refine g_run rfl rfl rfl ?_
            refine r_lit 97 (parts := []) rfl TD.sl22 TD.sz35 TD.zraw35 rfl rfl rfl rfl rfl rfl rfl ?_
            refine g_run rfl rfl rfl ?_
            refine r_move rfl rfl ?_
            refine g_run rfl rfl rfl ?_
            refine r_append 97 rfl (by first | exact .own _ | exact .nil) rfl (by first | exact .sl _ | exact .own _ _ | exact .nil) TD.sl22 TD.sz35 (by decide) TD.by35 TD.zlen35 (by simp [chunks]; omega) (by simp [chunks]; omega) rfl ?_
            refine g_run rfl rfl rfl ?_
            refine r_move rfl rfl ?_
            refine g_run rfl rfl rfl ?_
            refine r_append 97 rfl (by first | exact .own _ | exact .nil) rfl (by first | exact .sl _ | exact .own _ _ | exact .nil) TD.sl22 TD.sz35 (by decide) TD.by35 TD.zlen35 (by simp [chunks]; omega) (by simp [chunks]; omega) rfl ?_
            refine g_run rfl rfl rfl ?_
            refine awl_imp (imp_le 101 (x := .a (entsA ((takeF (fun _ _ => false) base ours theirs) ++ ours))) rfl (.ownEq (by simp [chunks]))) ?_
            refine r_call0 hq rfl rfl (.cons (.ev rfl rfl) (.cons (.ev rfl rfl) .nil)) (entries_ok (cleanF l') ((takeF (fun _ _ => false) base ours theirs) ++ ours) (by omega) (by simp; omega)) rfl TD.en22 rfl (fun r hr => ?_)
            obtain rfl := hr
            rw [entries_nil (md_shows hsh)]
            refine g_run rfl rfl rfl ?_
            first | (refine r_lenS rfl rfl TD.sl47 rfl ?_) | (refine r_lenNil rfl TD.sl47 rfl ?_)
            refine g_run rfl rfl rfl ?_
            refine r_cmp rfl rfl rfl rfl ?_
            refine r_pickT rfl rfl rfl rfl ?_
            refine r_assign rfl rfl ?_
            refine awl_nil ?_
            refine x_then ?_
            refine awp_ret ?_
            exact ⟨(.inl rfl), _, [], (.one (by first | exact .mk rfl rfl | exact .nil rfl)), ⟨rfl, rfl⟩, (List.nil_sublist _), (by simp)⟩
      ·
        refine r_move rfl rfl ?_
        refine r_extract rfl rfl rfl ?_
        refine r_extract rfl rfl rfl ?_
        refine r_assign rfl rfl ?_
        refine r_assign rfl rfl ?_
        refine awl_nil ?_
        refine x_then ?_
        refine awp_seq ?_
        refine awp_seq ?_
        refine awp_region ?_
        refine r_move rfl rfl ?_
        first | (refine r_lenS rfl rfl TD.sl26 rfl ?_) | (refine r_lenNil rfl TD.sl26 rfl ?_)
        refine r_cmp rfl rfl rfl rfl ?_
        refine r_move rfl rfl ?_
        refine g_skip rfl rfl (by simp) rfl ?_
        refine g_skip rfl rfl (by simp) rfl ?_
        refine g_skip rfl rfl (by simp) rfl ?_
        refine r_pickT rfl (by simp) rfl rfl ?_
        refine awl_nil ?_
        refine x_then ?_
        refine awp_condT rfl ?_
        refine awp_seq ?_
        refine awp_region ?_
        refine r_move rfl rfl ?_
        first | (refine r_lenS rfl rfl TD.sl26 rfl ?_) | (refine r_lenNil rfl TD.sl26 rfl ?_)
        refine r_cmp rfl rfl rfl rfl ?_
        refine r_assign rfl rfl ?_
        refine awl_nil ?_
        refine x_then ?_
        refine awp_ret ?_
        refine x_thenR ?_
        exact ⟨(.inl rfl), _, [], (.one (by first | exact .mk rfl rfl | exact .nil rfl)), ⟨rfl, by simp [bA, SV.av]⟩, (List.nil_sublist _), (by simp)⟩

end Go.Proofs.Ytcgjgnkpebpimaa.A

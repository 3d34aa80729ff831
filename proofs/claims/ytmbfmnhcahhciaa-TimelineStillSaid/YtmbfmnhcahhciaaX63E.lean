/- Layer 63: the walks of TimelineFile, TimelineParts. -/
import Derived.Test.YtmbfmnhcahhciaaProg
import Derived.KernelRfl
import Derived.Test.YtmbfmnhcahhciaaX63D
namespace Go.Proofs.Ytmbfmnhcahhciaa.A
open Go Go.RowKit
set_option linter.unusedVariables false
set_option linter.unusedSimpArgs false
set_option maxRecDepth 100000

theorem TF.en20 : entersT Try.prog 20 := enters_of Try.func20 (by kernel_rfl) (by kernel_rfl)

set_option maxHeartbeats 2000000 in
theorem file_law (ms : List Int) (ds : List Disk) (hok : ∀ d ∈ ds, OkD d) (name : ByteArray) : AC Try.prog 6 [numsA ms, disksA ds, strA name] [] (fun r n => n = [] ∧ r = boolA true) := by
  refine ac_of_awp (rs := [6]) (nt := 101) Try.func6 rfl rfl rfl rfl (fun w0 C0 hq => ?_)
  refine awp_seq ?_
  refine awp_region ?_
  refine r_assign rfl rfl ?_
  refine awl_nil ?_
  refine x_then ?_
  refine awp_seq ?_
  refine awp_seq ?_
  refine awp_region ?_
  refine r_call0 hq rfl rfl .nil (awake_ok) rfl TF.en11 rfl (fun r hr => ?_)
  obtain rfl := hr
  refine r_not rfl rfl ?_
  refine awl_nil ?_
  refine x_then ?_
  refine awp_cond rfl (fun hc0 => ?_) (fun hc0 => ?_)
  ·
    exfalso; exact absurd hc0 (by decide)
  ·
    refine awp_skip ?_
    refine x_then ?_
    refine awp_seq ?_
    refine awp_seq ?_
    refine awp_region ?_
    refine r_move rfl rfl ?_
    refine r_move rfl rfl ?_
    refine r_call0 hq rfl rfl (.cons (.ev rfl rfl) (.cons (.ev rfl rfl) .nil)) (great_ok ms ds) rfl TF.en12 rfl (fun r hr => ?_)
    rcases hr with rfl | ⟨rfl, hm12, hd12⟩
    
    ·
      refine r_cmp rfl rfl rfl rfl ?_
      refine r_move rfl rfl ?_
      refine g_skip rfl rfl rfl rfl ?_
      refine g_skip rfl rfl rfl rfl ?_
      refine g_skip rfl rfl rfl rfl ?_
      refine r_pickT rfl rfl rfl rfl ?_
      refine awl_nil ?_
      refine x_then ?_
      refine awp_condT rfl ?_
      refine awp_seq ?_
      refine awp_region ?_
      refine r_assign rfl rfl ?_
      refine awl_nil ?_
      refine x_then ?_
      refine awp_ret ?_
      refine x_thenR ?_
      exact ⟨(.inl rfl), _, [], (.one (by first | exact .mk rfl rfl | exact .nil rfl)), ⟨rfl, by first | rfl | (rw [hma]; simp [SV.av, boolA])⟩, (List.nil_sublist _), (by simp)⟩
    ·
      refine r_cmp rfl rfl rfl rfl ?_
      refine r_move rfl rfl ?_
      refine g_run rfl rfl rfl ?_
      refine r_move rfl rfl ?_
      refine g_run rfl rfl rfl ?_
      refine r_lenStr rfl TF.un9 rfl ?_
      refine g_run rfl rfl rfl ?_
      refine r_cmp rfl rfl rfl rfl ?_
      refine r_pickF rfl rfl rfl rfl ?_
      refine awl_nil ?_
      refine x_then ?_
      refine awp_cond rfl (fun hc1 => ?_) (fun hc1 => ?_)
      ·
        refine awp_seq ?_
        refine awp_region ?_
        refine r_assign rfl rfl ?_
        refine awl_nil ?_
        refine x_then ?_
        refine awp_ret ?_
        refine x_thenR ?_
        exact ⟨(.inl rfl), _, [], (.one (by first | exact .mk rfl rfl | exact .nil rfl)), ⟨rfl, by first | rfl | (rw [hma]; simp [SV.av, boolA])⟩, (List.nil_sublist _), (by simp)⟩
      ·
        refine awp_skip ?_
        refine x_then ?_
        refine awp_seq ?_
        refine awp_region ?_
        refine r_move rfl rfl ?_
        refine r_move rfl rfl ?_
        refine r_move rfl rfl ?_
        refine r_call0 hq rfl rfl (.cons (.ev rfl rfl) (.cons (.ev rfl rfl) .nil)) (at_ok ms ds) rfl TF.en13 rfl (fun r hr => ?_)
        obtain rfl := hr
        refine r_call0 hq rfl rfl (.cons (.ev rfl rfl) (.cons (.ev rfl rfl) .nil)) (tlD_ok ms (by omega) ms ds (by omega) hok) rfl TF.en14 rfl (fun r hr => ?_)
        obtain rfl := hr
        obtain ⟨E, hE⟩ : ∃ E, E = tlF ms (atF ms ds) := ⟨_, rfl⟩
        rw [← hE]
        have hEl : E.length ≤ 48 := by rw [hE]; have := tlF_len ms ms ds; omega
        have hEg : ∀ e ∈ E, GoodE e := by rw [hE]; exact tl_good
        refine r_assign rfl rfl ?_
        refine awl_nil ?_
        refine x_then ?_
        refine awp_seq ?_
        refine awp_seq ?_
        refine awp_region ?_
        refine r_move rfl rfl ?_
        first | (refine r_lenS rfl rfl TF.sl28 rfl ?_) | (refine r_lenNil rfl TF.sl28 rfl ?_) | (refine r_lenV rfl TF.sl28 rfl ?_)
        refine r_cmp rfl rfl rfl rfl ?_
        refine awl_nil ?_
        refine x_then ?_
        refine awp_cond rfl (fun hc2 => ?_) (fun hc2 => ?_)
        ·
          exfalso; have := of_decide_eq_true hc2; simp at this; omega
        ·
          refine awp_skip ?_
          refine x_then ?_
          refine awp_seq ?_
          refine awp_region ?_
          refine r_assign rfl rfl ?_
          refine awl_nil ?_
          refine x_then ?_
          refine awp_seq ?_
          refine awp_region ?_
          refine r_assign rfl rfl ?_
          refine awl_nil ?_
          refine x_then ?_
          refine awp_seq ?_
          refine awp_seq ?_
          refine awp_region ?_
          refine r_assign rfl rfl ?_
          refine awl_nil ?_
          refine x_then ?_
          refine awp_block ?_
          refine awp_loop (fun nn0 S => ∃ i : Nat, S = ⟨101, [(2, .a (strA name)), (7, .a (evsA E)), (8, .own 8 5 (((E.take i).filter (hitE name)).map Ev.cs)), (9, .a (.v (.int .i64 ((((E.take i).countP renE) : Int))))), (10, .a (.v (.int .i64 ((i : Int)))))], []⟩ ∧ nn0 = E.length - i ∧ (i ≤ E.length)) (E.length - (0)) ⟨101, [(2, .a (strA name)), (7, .a (evsA E)), (8, .own 8 5 (((E.take (0)).filter (hitE name)).map Ev.cs)), (9, .a (.v (.int .i64 ((((E.take (0)).countP renE) : Int))))), (10, .a (.v (.int .i64 (((0) : Int)))))], []⟩ ⟨rfl, (Slots.cons rfl (by first | exact .refl _ | exact .nilOwn _ _ | exact .nilSl _ | exact .ownSl _ _ _  | exact SV.le.of_eq (by simp)) (Slots.cons rfl (by first | exact .refl _ | exact .nilOwn _ _ | exact .nilSl _ | exact .ownSl _ _ _  | exact SV.le.of_eq (by simp)) (Slots.cons rfl (by first | exact .refl _ | exact .nilOwn _ _ | exact .nilSl _ | exact .ownSl _ _ _  | exact SV.le.of_eq (by simp)) (Slots.cons rfl (by first | exact .refl _ | exact .nilOwn _ _ | exact .nilSl _ | exact .ownSl _ _ _  | exact SV.le.of_eq (by simp)) (Slots.cons rfl (by first | exact .refl _ | exact .nilOwn _ _ | exact .nilSl _ | exact .ownSl _ _ _  | exact SV.le.of_eq (by simp)) Slots.nil))))), (by first | exact List.Sublist.refl _ | exact .cons_cons _ (.cons _ (.refl _)) | exact List.nil_sublist _ | exact .cons _ (.refl _) | exact .cons _ (.cons _ (.refl _)) | exact .cons _ (.cons _ (.cons _ (.refl _))) | exact .cons _ (.cons _ (.cons _ (.cons _ (.refl _)))) | exact .cons_cons _ (List.nil_sublist _))⟩ ⟨0, rfl, rfl, Nat.zero_le _⟩ ?_
          rintro nn0 _ ⟨i, rfl, rfl, hi⟩
          refine awp_seq ?_
          refine awp_seq ?_
          refine awp_region ?_
          refine r_move rfl rfl ?_
          refine r_move rfl rfl ?_
          first | (refine r_lenS rfl rfl TF.sl28 rfl ?_) | (refine r_lenNil rfl TF.sl28 rfl ?_) | (refine r_lenV rfl TF.sl28 rfl ?_)
          refine r_cmp rfl rfl rfl rfl ?_
          refine awl_nil ?_
          refine x_then ?_
          refine awp_cond rfl (fun hc3 => ?_) (fun hc3 => ?_)
          ·
            have hltx : i < E.length := by have := of_decide_eq_true hc3; simpa using this
            obtain ⟨x, hx⟩ := get_lt hltx
            have hfl : ((E.take i).filter (hitE name)).length ≤ i := Nat.le_trans (List.length_filter_le _ _) (by simp; omega)
            have hcl : ((E.take i).countP renE) ≤ i := Nat.le_trans (List.countP_le_length) (by simp; omega)
            refine awp_skip ?_
            refine x_then ?_
            refine awp_seq ?_
            refine awp_block ?_
            refine awp_seq ?_
            refine awp_seq ?_
            refine awp_region ?_
            refine r_move rfl rfl ?_
            refine r_move rfl rfl ?_
            refine r_index rfl rfl rfl TF.sl28 TF.sz46 (by omega) (get_map hx) rfl ?_
            first | (refine r_fieldb rfl TF.f46_1 TF.sz44 rfl ?_) | (refine r_fieldcp rfl TF.f46_1 TF.sz44 rfl ?_)
            first | (refine r_fieldb rfl TF.f44_1 TF.sz9 rfl ?_) | (refine r_fieldcp rfl TF.f44_1 TF.sz9 rfl ?_)
            refine r_load1 rfl TF.agg9 rfl ?_
            refine r_move rfl rfl ?_
            refine r_str2 rfl rfl rfl rfl ?_
            refine r_move rfl rfl ?_
            refine g_cases (t' := 46) rfl (fun hg46 => ?_) (fun hg46 => ?_)
            ·
              refine g_skip rfl rfl hg46 rfl ?_
              refine g_skip rfl rfl hg46 rfl ?_
              refine g_skip rfl rfl hg46 rfl ?_
              refine g_skipU rfl rfl rfl ?_
              refine g_skipU rfl rfl rfl ?_
              refine g_skipU rfl rfl rfl ?_
              refine g_skipU rfl rfl rfl ?_
              refine g_skipU rfl rfl rfl ?_
              refine g_skipU rfl rfl rfl ?_
              refine g_skipU rfl rfl rfl ?_
              refine g_skipU rfl rfl rfl ?_
              refine g_skip rfl rfl hg46 rfl ?_
              refine r_pickT rfl hg46 rfl rfl ?_
              refine awl_nil ?_
              refine x_then ?_
              refine awp_condT rfl ?_
              have hp : hitE name x = true := by first | (unfold hitE; rw [hg46]; rfl) | (unfold hitE E0; rw [hg46, (by simpa using hg49 : decide (name = (⟨#[]⟩ : ByteArray)) = false), hc4]; rfl)
              refine awp_region ?_
              refine r_move rfl rfl ?_
              refine r_move rfl rfl ?_
              refine r_move rfl rfl ?_
              refine r_index rfl rfl rfl TF.sl28 TF.sz46 (by omega) (get_map hx) rfl ?_
              refine r_loadA rfl TF.agg46 TF.sz46 rfl rfl ?_
              refine r_lit 65 (parts := [(0, .tmp 64)]) rfl TF.sl28 TF.sz46 TF.zraw46 rfl rfl rfl rfl rfl rfl rfl ?_
              refine r_append 8 rfl (by first | exact .own _ | exact .nil) rfl (by first | exact .sl _ | exact .own _ _ | exact .nil) TF.sl28 TF.sz46 (by decide) TF.by46 TF.zlen46 (by simp [chunks] <;> omega) (by simp [chunks] <;> omega) rfl ?_
              refine r_assign rfl rfl ?_
              refine awl_nil ?_
              refine x_then ?_
              refine awp_seq ?_
              refine awp_region ?_
              refine r_move rfl rfl ?_
              refine r_move rfl rfl ?_
              refine r_index rfl rfl rfl TF.sl28 TF.sz46 (by omega) (get_map hx) rfl ?_
              first | (refine r_fieldb rfl TF.f46_1 TF.sz44 rfl ?_) | (refine r_fieldcp rfl TF.f46_1 TF.sz44 rfl ?_)
              first | (refine r_fieldb rfl TF.f44_0 TF.sz3 rfl ?_) | (refine r_fieldcp rfl TF.f44_0 TF.sz3 rfl ?_)
              refine r_load1 rfl TF.agg3 rfl ?_
              refine r_cmp rfl rfl rfl rfl ?_
              refine awl_nil ?_
              refine x_then ?_
              refine awp_cond rfl (fun hc5 => ?_) (fun hc5 => ?_)
              ·
                have hrn : renE x = true := hc5
                refine awp_region ?_
                refine r_move rfl rfl ?_
                refine r_ari _ rfl rfl rfl (wrap_id (by first | omega | (simp; omega))) rfl ?_
                refine r_assign rfl rfl ?_
                refine awl_nil ?_
                refine x_block ?_
                refine x_then ?_
                refine awp_region ?_
                refine r_move rfl rfl ?_
                refine r_ari _ rfl rfl rfl (wrap_id (by first | omega | (simp; omega))) rfl ?_
                refine r_assign rfl rfl ?_
                refine awl_nil ?_
                refine x_then ?_
                have hct : (E.take (i + 1)).countP renE = ((E.take i).countP renE) + cond (renE x) 1 0 := by rw [takeS hx, List.countP_append]; cases h : renE x <;> simp [h]
                rw [hrn] at hct
                refine ⟨E.length - (i + 1), ⟨101, [(2, .a (strA name)), (7, .a (evsA E)), (8, .own 8 5 (((E.take (i + 1)).filter (hitE name)).map Ev.cs)), (9, .a (.v (.int .i64 ((((E.take (i + 1)).countP renE) : Int))))), (10, .a (.v (.int .i64 (((i + 1) : Int)))))], []⟩, ⟨rfl, (Slots.cons rfl (by first | exact .refl _ | exact .nilOwn _ _ | exact .nilSl _ | exact .ownSl _ _ _  | exact SV.le.ownEq (by first | rfl | (rw [filtS_take hx, hp, if_pos rfl, List.map_append]; rfl) | (rw [filtS_take hx, hp, if_neg (by decide), List.append_nil]) | (rw [hct]; rfl)) | exact SV.le.of_eq (by first | rfl | (rw [filtS_take hx, hp, if_pos rfl, List.map_append]; rfl) | (rw [filtS_take hx, hp, if_neg (by decide), List.append_nil]) | (rw [hct]; rfl))) (Slots.cons rfl (by first | exact .refl _ | exact .nilOwn _ _ | exact .nilSl _ | exact .ownSl _ _ _  | exact SV.le.ownEq (by first | rfl | (rw [filtS_take hx, hp, if_pos rfl, List.map_append]; rfl) | (rw [filtS_take hx, hp, if_neg (by decide), List.append_nil]) | (rw [hct]; rfl)) | exact SV.le.of_eq (by first | rfl | (rw [filtS_take hx, hp, if_pos rfl, List.map_append]; rfl) | (rw [filtS_take hx, hp, if_neg (by decide), List.append_nil]) | (rw [hct]; rfl))) (Slots.cons rfl (by first | exact .refl _ | exact .nilOwn _ _ | exact .nilSl _ | exact .ownSl _ _ _  | exact SV.le.ownEq (by first | rfl | (rw [filtS_take hx, hp, if_pos rfl, List.map_append]; rfl) | (rw [filtS_take hx, hp, if_neg (by decide), List.append_nil]) | (rw [hct]; rfl)) | exact SV.le.of_eq (by first | rfl | (rw [filtS_take hx, hp, if_pos rfl, List.map_append]; rfl) | (rw [filtS_take hx, hp, if_neg (by decide), List.append_nil]) | (rw [hct]; rfl))) (Slots.cons rfl (by first | exact .refl _ | exact .nilOwn _ _ | exact .nilSl _ | exact .ownSl _ _ _  | exact SV.le.ownEq (by first | rfl | (rw [filtS_take hx, hp, if_pos rfl, List.map_append]; rfl) | (rw [filtS_take hx, hp, if_neg (by decide), List.append_nil]) | (rw [hct]; rfl)) | exact SV.le.of_eq (by first | rfl | (rw [filtS_take hx, hp, if_pos rfl, List.map_append]; rfl) | (rw [filtS_take hx, hp, if_neg (by decide), List.append_nil]) | (rw [hct]; rfl))) (Slots.cons rfl (by first | exact .refl _ | exact .nilOwn _ _ | exact .nilSl _ | exact .ownSl _ _ _  | exact SV.le.ownEq (by first | rfl | (rw [filtS_take hx, hp, if_pos rfl, List.map_append]; rfl) | (rw [filtS_take hx, hp, if_neg (by decide), List.append_nil]) | (rw [hct]; rfl)) | exact SV.le.of_eq (by first | rfl | (rw [filtS_take hx, hp, if_pos rfl, List.map_append]; rfl) | (rw [filtS_take hx, hp, if_neg (by decide), List.append_nil]) | (rw [hct]; rfl))) Slots.nil))))), (by first | exact List.Sublist.refl _ | exact .cons_cons _ (.cons _ (.refl _)) | exact List.nil_sublist _ | exact .cons _ (.refl _) | exact .cons _ (.cons _ (.refl _)) | exact .cons _ (.cons _ (.cons _ (.refl _))) | exact .cons _ (.cons _ (.cons _ (.cons _ (.refl _)))) | exact .cons_cons _ (List.nil_sublist _))⟩, (by omega), ⟨i + 1, rfl, rfl, (by omega)⟩⟩
              ·
                have hrn : renE x = false := hc5
                refine awp_skip ?_
                refine x_block ?_
                refine x_then ?_
                refine awp_region ?_
                refine r_move rfl rfl ?_
                refine r_ari _ rfl rfl rfl (wrap_id (by first | omega | (simp; omega))) rfl ?_
                refine r_assign rfl rfl ?_
                refine awl_nil ?_
                refine x_then ?_
                have hct : (E.take (i + 1)).countP renE = ((E.take i).countP renE) + cond (renE x) 1 0 := by rw [takeS hx, List.countP_append]; cases h : renE x <;> simp [h]
                rw [hrn] at hct
                refine ⟨E.length - (i + 1), ⟨101, [(2, .a (strA name)), (7, .a (evsA E)), (8, .own 8 5 (((E.take (i + 1)).filter (hitE name)).map Ev.cs)), (9, .a (.v (.int .i64 ((((E.take (i + 1)).countP renE) : Int))))), (10, .a (.v (.int .i64 (((i + 1) : Int)))))], []⟩, ⟨rfl, (Slots.cons rfl (by first | exact .refl _ | exact .nilOwn _ _ | exact .nilSl _ | exact .ownSl _ _ _  | exact SV.le.ownEq (by first | rfl | (rw [filtS_take hx, hp, if_pos rfl, List.map_append]; rfl) | (rw [filtS_take hx, hp, if_neg (by decide), List.append_nil]) | (rw [hct]; rfl)) | exact SV.le.of_eq (by first | rfl | (rw [filtS_take hx, hp, if_pos rfl, List.map_append]; rfl) | (rw [filtS_take hx, hp, if_neg (by decide), List.append_nil]) | (rw [hct]; rfl))) (Slots.cons rfl (by first | exact .refl _ | exact .nilOwn _ _ | exact .nilSl _ | exact .ownSl _ _ _  | exact SV.le.ownEq (by first | rfl | (rw [filtS_take hx, hp, if_pos rfl, List.map_append]; rfl) | (rw [filtS_take hx, hp, if_neg (by decide), List.append_nil]) | (rw [hct]; rfl)) | exact SV.le.of_eq (by first | rfl | (rw [filtS_take hx, hp, if_pos rfl, List.map_append]; rfl) | (rw [filtS_take hx, hp, if_neg (by decide), List.append_nil]) | (rw [hct]; rfl))) (Slots.cons rfl (by first | exact .refl _ | exact .nilOwn _ _ | exact .nilSl _ | exact .ownSl _ _ _  | exact SV.le.ownEq (by first | rfl | (rw [filtS_take hx, hp, if_pos rfl, List.map_append]; rfl) | (rw [filtS_take hx, hp, if_neg (by decide), List.append_nil]) | (rw [hct]; rfl)) | exact SV.le.of_eq (by first | rfl | (rw [filtS_take hx, hp, if_pos rfl, List.map_append]; rfl) | (rw [filtS_take hx, hp, if_neg (by decide), List.append_nil]) | (rw [hct]; rfl))) (Slots.cons rfl (by first | exact .refl _ | exact .nilOwn _ _ | exact .nilSl _ | exact .ownSl _ _ _  | exact SV.le.ownEq (by first | rfl | (rw [filtS_take hx, hp, if_pos rfl, List.map_append]; rfl) | (rw [filtS_take hx, hp, if_neg (by decide), List.append_nil]) | (rw [hct]; rfl)) | exact SV.le.of_eq (by first | rfl | (rw [filtS_take hx, hp, if_pos rfl, List.map_append]; rfl) | (rw [filtS_take hx, hp, if_neg (by decide), List.append_nil]) | (rw [hct]; rfl))) (Slots.cons rfl (by first | exact .refl _ | exact .nilOwn _ _ | exact .nilSl _ | exact .ownSl _ _ _  | exact SV.le.ownEq (by first | rfl | (rw [filtS_take hx, hp, if_pos rfl, List.map_append]; rfl) | (rw [filtS_take hx, hp, if_neg (by decide), List.append_nil]) | (rw [hct]; rfl)) | exact SV.le.of_eq (by first | rfl | (rw [filtS_take hx, hp, if_pos rfl, List.map_append]; rfl) | (rw [filtS_take hx, hp, if_neg (by decide), List.append_nil]) | (rw [hct]; rfl))) Slots.nil))))), (by first | exact List.Sublist.refl _ | exact .cons_cons _ (.cons _ (.refl _)) | exact List.nil_sublist _ | exact .cons _ (.refl _) | exact .cons _ (.cons _ (.refl _)) | exact .cons _ (.cons _ (.cons _ (.refl _))) | exact .cons _ (.cons _ (.cons _ (.cons _ (.refl _)))) | exact .cons_cons _ (List.nil_sublist _))⟩, (by omega), ⟨i + 1, rfl, rfl, (by omega)⟩⟩
            ·
              refine g_run rfl rfl hg46 ?_
              refine r_move rfl rfl ?_
              refine g_run rfl rfl hg46 ?_
              refine r_str2 rfl rfl rfl rfl ?_
              refine g_run rfl rfl hg46 ?_
              refine r_move rfl rfl ?_
              refine g_cases (t' := 49) rfl (fun hg49 => ?_) (fun hg49 => ?_)
              ·
                refine g_run rfl rfl hg49 ?_
                refine r_move rfl rfl ?_
                refine g_run rfl rfl hg49 ?_
                refine r_move rfl rfl ?_
                refine g_run rfl rfl hg49 ?_
                refine r_index rfl rfl rfl TF.sl28 TF.sz46 (by omega) (get_map hx) rfl ?_
                refine g_run rfl rfl hg49 ?_
                first | (refine r_fieldb rfl TF.f46_1 TF.sz44 rfl ?_) | (refine r_fieldcp rfl TF.f46_1 TF.sz44 rfl ?_)
                refine g_run rfl rfl hg49 ?_
                first | (refine r_fieldb rfl TF.f44_2 TF.sz9 rfl ?_) | (refine r_fieldcp rfl TF.f44_2 TF.sz9 rfl ?_)
                refine g_run rfl rfl hg49 ?_
                refine r_load1 rfl TF.agg9 rfl ?_
                refine g_run rfl rfl hg49 ?_
                refine r_move rfl rfl ?_
                refine g_run rfl rfl hg49 ?_
                refine r_str2 rfl rfl rfl rfl ?_
                refine g_run rfl rfl hg46 ?_
                refine r_pickT rfl hg49 rfl rfl ?_
                refine r_pickF rfl hg46 rfl rfl ?_
                refine awl_nil ?_
                refine x_then ?_
                refine awp_cond rfl (fun hc4 => ?_) (fun hc4 => ?_)
                ·
                  have hp : hitE name x = true := by first | (unfold hitE; rw [hg46]; rfl) | (unfold hitE E0; rw [hg46, (by simpa using hg49 : decide (name = (⟨#[]⟩ : ByteArray)) = false), hc4]; rfl)
                  refine awp_region ?_
                  refine r_move rfl rfl ?_
                  refine r_move rfl rfl ?_
                  refine r_move rfl rfl ?_
                  refine r_index rfl rfl rfl TF.sl28 TF.sz46 (by omega) (get_map hx) rfl ?_
                  refine r_loadA rfl TF.agg46 TF.sz46 rfl rfl ?_
                  refine r_lit 65 (parts := [(0, .tmp 64)]) rfl TF.sl28 TF.sz46 TF.zraw46 rfl rfl rfl rfl rfl rfl rfl ?_
                  refine r_append 8 rfl (by first | exact .own _ | exact .nil) rfl (by first | exact .sl _ | exact .own _ _ | exact .nil) TF.sl28 TF.sz46 (by decide) TF.by46 TF.zlen46 (by simp [chunks] <;> omega) (by simp [chunks] <;> omega) rfl ?_
                  refine r_assign rfl rfl ?_
                  refine awl_nil ?_
                  refine x_then ?_
                  refine awp_seq ?_
                  refine awp_region ?_
                  refine r_move rfl rfl ?_
                  refine r_move rfl rfl ?_
                  refine r_index rfl rfl rfl TF.sl28 TF.sz46 (by omega) (get_map hx) rfl ?_
                  first | (refine r_fieldb rfl TF.f46_1 TF.sz44 rfl ?_) | (refine r_fieldcp rfl TF.f46_1 TF.sz44 rfl ?_)
                  first | (refine r_fieldb rfl TF.f44_0 TF.sz3 rfl ?_) | (refine r_fieldcp rfl TF.f44_0 TF.sz3 rfl ?_)
                  refine r_load1 rfl TF.agg3 rfl ?_
                  refine r_cmp rfl rfl rfl rfl ?_
                  refine awl_nil ?_
                  refine x_then ?_
                  refine awp_cond rfl (fun hc5 => ?_) (fun hc5 => ?_)
                  ·
                    have hrn : renE x = true := hc5
                    refine awp_region ?_
                    refine r_move rfl rfl ?_
                    refine r_ari _ rfl rfl rfl (wrap_id (by first | omega | (simp; omega))) rfl ?_
                    refine r_assign rfl rfl ?_
                    refine awl_nil ?_
                    refine x_block ?_
                    refine x_then ?_
                    refine awp_region ?_
                    refine r_move rfl rfl ?_
                    refine r_ari _ rfl rfl rfl (wrap_id (by first | omega | (simp; omega))) rfl ?_
                    refine r_assign rfl rfl ?_
                    refine awl_nil ?_
                    refine x_then ?_
                    have hct : (E.take (i + 1)).countP renE = ((E.take i).countP renE) + cond (renE x) 1 0 := by rw [takeS hx, List.countP_append]; cases h : renE x <;> simp [h]
                    rw [hrn] at hct
                    refine ⟨E.length - (i + 1), ⟨101, [(2, .a (strA name)), (7, .a (evsA E)), (8, .own 8 5 (((E.take (i + 1)).filter (hitE name)).map Ev.cs)), (9, .a (.v (.int .i64 ((((E.take (i + 1)).countP renE) : Int))))), (10, .a (.v (.int .i64 (((i + 1) : Int)))))], []⟩, ⟨rfl, (Slots.cons rfl (by first | exact .refl _ | exact .nilOwn _ _ | exact .nilSl _ | exact .ownSl _ _ _  | exact SV.le.ownEq (by first | rfl | (rw [filtS_take hx, hp, if_pos rfl, List.map_append]; rfl) | (rw [filtS_take hx, hp, if_neg (by decide), List.append_nil]) | (rw [hct]; rfl)) | exact SV.le.of_eq (by first | rfl | (rw [filtS_take hx, hp, if_pos rfl, List.map_append]; rfl) | (rw [filtS_take hx, hp, if_neg (by decide), List.append_nil]) | (rw [hct]; rfl))) (Slots.cons rfl (by first | exact .refl _ | exact .nilOwn _ _ | exact .nilSl _ | exact .ownSl _ _ _  | exact SV.le.ownEq (by first | rfl | (rw [filtS_take hx, hp, if_pos rfl, List.map_append]; rfl) | (rw [filtS_take hx, hp, if_neg (by decide), List.append_nil]) | (rw [hct]; rfl)) | exact SV.le.of_eq (by first | rfl | (rw [filtS_take hx, hp, if_pos rfl, List.map_append]; rfl) | (rw [filtS_take hx, hp, if_neg (by decide), List.append_nil]) | (rw [hct]; rfl))) (Slots.cons rfl (by first | exact .refl _ | exact .nilOwn _ _ | exact .nilSl _ | exact .ownSl _ _ _  | exact SV.le.ownEq (by first | rfl | (rw [filtS_take hx, hp, if_pos rfl, List.map_append]; rfl) | (rw [filtS_take hx, hp, if_neg (by decide), List.append_nil]) | (rw [hct]; rfl)) | exact SV.le.of_eq (by first | rfl | (rw [filtS_take hx, hp, if_pos rfl, List.map_append]; rfl) | (rw [filtS_take hx, hp, if_neg (by decide), List.append_nil]) | (rw [hct]; rfl))) (Slots.cons rfl (by first | exact .refl _ | exact .nilOwn _ _ | exact .nilSl _ | exact .ownSl _ _ _  | exact SV.le.ownEq (by first | rfl | (rw [filtS_take hx, hp, if_pos rfl, List.map_append]; rfl) | (rw [filtS_take hx, hp, if_neg (by decide), List.append_nil]) | (rw [hct]; rfl)) | exact SV.le.of_eq (by first | rfl | (rw [filtS_take hx, hp, if_pos rfl, List.map_append]; rfl) | (rw [filtS_take hx, hp, if_neg (by decide), List.append_nil]) | (rw [hct]; rfl))) (Slots.cons rfl (by first | exact .refl _ | exact .nilOwn _ _ | exact .nilSl _ | exact .ownSl _ _ _  | exact SV.le.ownEq (by first | rfl | (rw [filtS_take hx, hp, if_pos rfl, List.map_append]; rfl) | (rw [filtS_take hx, hp, if_neg (by decide), List.append_nil]) | (rw [hct]; rfl)) | exact SV.le.of_eq (by first | rfl | (rw [filtS_take hx, hp, if_pos rfl, List.map_append]; rfl) | (rw [filtS_take hx, hp, if_neg (by decide), List.append_nil]) | (rw [hct]; rfl))) Slots.nil))))), (by first | exact List.Sublist.refl _ | exact .cons_cons _ (.cons _ (.refl _)) | exact List.nil_sublist _ | exact .cons _ (.refl _) | exact .cons _ (.cons _ (.refl _)) | exact .cons _ (.cons _ (.cons _ (.refl _))) | exact .cons _ (.cons _ (.cons _ (.cons _ (.refl _)))) | exact .cons_cons _ (List.nil_sublist _))⟩, (by omega), ⟨i + 1, rfl, rfl, (by omega)⟩⟩
                  ·
                    have hrn : renE x = false := hc5
                    refine awp_skip ?_
                    refine x_block ?_
                    refine x_then ?_
                    refine awp_region ?_
                    refine r_move rfl rfl ?_
                    refine r_ari _ rfl rfl rfl (wrap_id (by first | omega | (simp; omega))) rfl ?_
                    refine r_assign rfl rfl ?_
                    refine awl_nil ?_
                    refine x_then ?_
                    have hct : (E.take (i + 1)).countP renE = ((E.take i).countP renE) + cond (renE x) 1 0 := by rw [takeS hx, List.countP_append]; cases h : renE x <;> simp [h]
                    rw [hrn] at hct
                    refine ⟨E.length - (i + 1), ⟨101, [(2, .a (strA name)), (7, .a (evsA E)), (8, .own 8 5 (((E.take (i + 1)).filter (hitE name)).map Ev.cs)), (9, .a (.v (.int .i64 ((((E.take (i + 1)).countP renE) : Int))))), (10, .a (.v (.int .i64 (((i + 1) : Int)))))], []⟩, ⟨rfl, (Slots.cons rfl (by first | exact .refl _ | exact .nilOwn _ _ | exact .nilSl _ | exact .ownSl _ _ _  | exact SV.le.ownEq (by first | rfl | (rw [filtS_take hx, hp, if_pos rfl, List.map_append]; rfl) | (rw [filtS_take hx, hp, if_neg (by decide), List.append_nil]) | (rw [hct]; rfl)) | exact SV.le.of_eq (by first | rfl | (rw [filtS_take hx, hp, if_pos rfl, List.map_append]; rfl) | (rw [filtS_take hx, hp, if_neg (by decide), List.append_nil]) | (rw [hct]; rfl))) (Slots.cons rfl (by first | exact .refl _ | exact .nilOwn _ _ | exact .nilSl _ | exact .ownSl _ _ _  | exact SV.le.ownEq (by first | rfl | (rw [filtS_take hx, hp, if_pos rfl, List.map_append]; rfl) | (rw [filtS_take hx, hp, if_neg (by decide), List.append_nil]) | (rw [hct]; rfl)) | exact SV.le.of_eq (by first | rfl | (rw [filtS_take hx, hp, if_pos rfl, List.map_append]; rfl) | (rw [filtS_take hx, hp, if_neg (by decide), List.append_nil]) | (rw [hct]; rfl))) (Slots.cons rfl (by first | exact .refl _ | exact .nilOwn _ _ | exact .nilSl _ | exact .ownSl _ _ _  | exact SV.le.ownEq (by first | rfl | (rw [filtS_take hx, hp, if_pos rfl, List.map_append]; rfl) | (rw [filtS_take hx, hp, if_neg (by decide), List.append_nil]) | (rw [hct]; rfl)) | exact SV.le.of_eq (by first | rfl | (rw [filtS_take hx, hp, if_pos rfl, List.map_append]; rfl) | (rw [filtS_take hx, hp, if_neg (by decide), List.append_nil]) | (rw [hct]; rfl))) (Slots.cons rfl (by first | exact .refl _ | exact .nilOwn _ _ | exact .nilSl _ | exact .ownSl _ _ _  | exact SV.le.ownEq (by first | rfl | (rw [filtS_take hx, hp, if_pos rfl, List.map_append]; rfl) | (rw [filtS_take hx, hp, if_neg (by decide), List.append_nil]) | (rw [hct]; rfl)) | exact SV.le.of_eq (by first | rfl | (rw [filtS_take hx, hp, if_pos rfl, List.map_append]; rfl) | (rw [filtS_take hx, hp, if_neg (by decide), List.append_nil]) | (rw [hct]; rfl))) (Slots.cons rfl (by first | exact .refl _ | exact .nilOwn _ _ | exact .nilSl _ | exact .ownSl _ _ _  | exact SV.le.ownEq (by first | rfl | (rw [filtS_take hx, hp, if_pos rfl, List.map_append]; rfl) | (rw [filtS_take hx, hp, if_neg (by decide), List.append_nil]) | (rw [hct]; rfl)) | exact SV.le.of_eq (by first | rfl | (rw [filtS_take hx, hp, if_pos rfl, List.map_append]; rfl) | (rw [filtS_take hx, hp, if_neg (by decide), List.append_nil]) | (rw [hct]; rfl))) Slots.nil))))), (by first | exact List.Sublist.refl _ | exact .cons_cons _ (.cons _ (.refl _)) | exact List.nil_sublist _ | exact .cons _ (.refl _) | exact .cons _ (.cons _ (.refl _)) | exact .cons _ (.cons _ (.cons _ (.refl _))) | exact .cons _ (.cons _ (.cons _ (.cons _ (.refl _)))) | exact .cons_cons _ (List.nil_sublist _))⟩, (by omega), ⟨i + 1, rfl, rfl, (by omega)⟩⟩
                ·
                  have hp : hitE name x = false := by first | (unfold hitE E0; rw [hg46, (by simpa using hg49 : decide (name = (⟨#[]⟩ : ByteArray)) = true)]; rfl) | (unfold hitE; rw [hg46, hc4, Bool.and_false]; rfl)
                  refine awp_skip ?_
                  refine x_then ?_
                  refine awp_seq ?_
                  refine awp_region ?_
                  refine r_move rfl rfl ?_
                  refine r_move rfl rfl ?_
                  refine r_index rfl rfl rfl TF.sl28 TF.sz46 (by omega) (get_map hx) rfl ?_
                  first | (refine r_fieldb rfl TF.f46_1 TF.sz44 rfl ?_) | (refine r_fieldcp rfl TF.f46_1 TF.sz44 rfl ?_)
                  first | (refine r_fieldb rfl TF.f44_0 TF.sz3 rfl ?_) | (refine r_fieldcp rfl TF.f44_0 TF.sz3 rfl ?_)
                  refine r_load1 rfl TF.agg3 rfl ?_
                  refine r_cmp rfl rfl rfl rfl ?_
                  refine awl_nil ?_
                  refine x_then ?_
                  refine awp_cond rfl (fun hc5 => ?_) (fun hc5 => ?_)
                  ·
                    have hrn : renE x = true := hc5
                    refine awp_region ?_
                    refine r_move rfl rfl ?_
                    refine r_ari _ rfl rfl rfl (wrap_id (by first | omega | (simp; omega))) rfl ?_
                    refine r_assign rfl rfl ?_
                    refine awl_nil ?_
                    refine x_block ?_
                    refine x_then ?_
                    refine awp_region ?_
                    refine r_move rfl rfl ?_
                    refine r_ari _ rfl rfl rfl (wrap_id (by first | omega | (simp; omega))) rfl ?_
                    refine r_assign rfl rfl ?_
                    refine awl_nil ?_
                    refine x_then ?_
                    have hct : (E.take (i + 1)).countP renE = ((E.take i).countP renE) + cond (renE x) 1 0 := by rw [takeS hx, List.countP_append]; cases h : renE x <;> simp [h]
                    rw [hrn] at hct
                    refine ⟨E.length - (i + 1), ⟨101, [(2, .a (strA name)), (7, .a (evsA E)), (8, .own 8 5 (((E.take (i + 1)).filter (hitE name)).map Ev.cs)), (9, .a (.v (.int .i64 ((((E.take (i + 1)).countP renE) : Int))))), (10, .a (.v (.int .i64 (((i + 1) : Int)))))], []⟩, ⟨rfl, (Slots.cons rfl (by first | exact .refl _ | exact .nilOwn _ _ | exact .nilSl _ | exact .ownSl _ _ _  | exact SV.le.ownEq (by first | rfl | (rw [filtS_take hx, hp, if_pos rfl, List.map_append]; rfl) | (rw [filtS_take hx, hp, if_neg (by decide), List.append_nil]) | (rw [hct]; rfl)) | exact SV.le.of_eq (by first | rfl | (rw [filtS_take hx, hp, if_pos rfl, List.map_append]; rfl) | (rw [filtS_take hx, hp, if_neg (by decide), List.append_nil]) | (rw [hct]; rfl))) (Slots.cons rfl (by first | exact .refl _ | exact .nilOwn _ _ | exact .nilSl _ | exact .ownSl _ _ _  | exact SV.le.ownEq (by first | rfl | (rw [filtS_take hx, hp, if_pos rfl, List.map_append]; rfl) | (rw [filtS_take hx, hp, if_neg (by decide), List.append_nil]) | (rw [hct]; rfl)) | exact SV.le.of_eq (by first | rfl | (rw [filtS_take hx, hp, if_pos rfl, List.map_append]; rfl) | (rw [filtS_take hx, hp, if_neg (by decide), List.append_nil]) | (rw [hct]; rfl))) (Slots.cons rfl (by first | exact .refl _ | exact .nilOwn _ _ | exact .nilSl _ | exact .ownSl _ _ _  | exact SV.le.ownEq (by first | rfl | (rw [filtS_take hx, hp, if_pos rfl, List.map_append]; rfl) | (rw [filtS_take hx, hp, if_neg (by decide), List.append_nil]) | (rw [hct]; rfl)) | exact SV.le.of_eq (by first | rfl | (rw [filtS_take hx, hp, if_pos rfl, List.map_append]; rfl) | (rw [filtS_take hx, hp, if_neg (by decide), List.append_nil]) | (rw [hct]; rfl))) (Slots.cons rfl (by first | exact .refl _ | exact .nilOwn _ _ | exact .nilSl _ | exact .ownSl _ _ _  | exact SV.le.ownEq (by first | rfl | (rw [filtS_take hx, hp, if_pos rfl, List.map_append]; rfl) | (rw [filtS_take hx, hp, if_neg (by decide), List.append_nil]) | (rw [hct]; rfl)) | exact SV.le.of_eq (by first | rfl | (rw [filtS_take hx, hp, if_pos rfl, List.map_append]; rfl) | (rw [filtS_take hx, hp, if_neg (by decide), List.append_nil]) | (rw [hct]; rfl))) (Slots.cons rfl (by first | exact .refl _ | exact .nilOwn _ _ | exact .nilSl _ | exact .ownSl _ _ _  | exact SV.le.ownEq (by first | rfl | (rw [filtS_take hx, hp, if_pos rfl, List.map_append]; rfl) | (rw [filtS_take hx, hp, if_neg (by decide), List.append_nil]) | (rw [hct]; rfl)) | exact SV.le.of_eq (by first | rfl | (rw [filtS_take hx, hp, if_pos rfl, List.map_append]; rfl) | (rw [filtS_take hx, hp, if_neg (by decide), List.append_nil]) | (rw [hct]; rfl))) Slots.nil))))), (by first | exact List.Sublist.refl _ | exact .cons_cons _ (.cons _ (.refl _)) | exact List.nil_sublist _ | exact .cons _ (.refl _) | exact .cons _ (.cons _ (.refl _)) | exact .cons _ (.cons _ (.cons _ (.refl _))) | exact .cons _ (.cons _ (.cons _ (.cons _ (.refl _)))) | exact .cons_cons _ (List.nil_sublist _))⟩, (by omega), ⟨i + 1, rfl, rfl, (by omega)⟩⟩
                  ·
                    have hrn : renE x = false := hc5
                    refine awp_skip ?_
                    refine x_block ?_
                    refine x_then ?_
                    refine awp_region ?_
                    refine r_move rfl rfl ?_
                    refine r_ari _ rfl rfl rfl (wrap_id (by first | omega | (simp; omega))) rfl ?_
                    refine r_assign rfl rfl ?_
                    refine awl_nil ?_
                    refine x_then ?_
                    have hct : (E.take (i + 1)).countP renE = ((E.take i).countP renE) + cond (renE x) 1 0 := by rw [takeS hx, List.countP_append]; cases h : renE x <;> simp [h]
                    rw [hrn] at hct
                    refine ⟨E.length - (i + 1), ⟨101, [(2, .a (strA name)), (7, .a (evsA E)), (8, .own 8 5 (((E.take (i + 1)).filter (hitE name)).map Ev.cs)), (9, .a (.v (.int .i64 ((((E.take (i + 1)).countP renE) : Int))))), (10, .a (.v (.int .i64 (((i + 1) : Int)))))], []⟩, ⟨rfl, (Slots.cons rfl (by first | exact .refl _ | exact .nilOwn _ _ | exact .nilSl _ | exact .ownSl _ _ _  | exact SV.le.ownEq (by first | rfl | (rw [filtS_take hx, hp, if_pos rfl, List.map_append]; rfl) | (rw [filtS_take hx, hp, if_neg (by decide), List.append_nil]) | (rw [hct]; rfl)) | exact SV.le.of_eq (by first | rfl | (rw [filtS_take hx, hp, if_pos rfl, List.map_append]; rfl) | (rw [filtS_take hx, hp, if_neg (by decide), List.append_nil]) | (rw [hct]; rfl))) (Slots.cons rfl (by first | exact .refl _ | exact .nilOwn _ _ | exact .nilSl _ | exact .ownSl _ _ _  | exact SV.le.ownEq (by first | rfl | (rw [filtS_take hx, hp, if_pos rfl, List.map_append]; rfl) | (rw [filtS_take hx, hp, if_neg (by decide), List.append_nil]) | (rw [hct]; rfl)) | exact SV.le.of_eq (by first | rfl | (rw [filtS_take hx, hp, if_pos rfl, List.map_append]; rfl) | (rw [filtS_take hx, hp, if_neg (by decide), List.append_nil]) | (rw [hct]; rfl))) (Slots.cons rfl (by first | exact .refl _ | exact .nilOwn _ _ | exact .nilSl _ | exact .ownSl _ _ _  | exact SV.le.ownEq (by first | rfl | (rw [filtS_take hx, hp, if_pos rfl, List.map_append]; rfl) | (rw [filtS_take hx, hp, if_neg (by decide), List.append_nil]) | (rw [hct]; rfl)) | exact SV.le.of_eq (by first | rfl | (rw [filtS_take hx, hp, if_pos rfl, List.map_append]; rfl) | (rw [filtS_take hx, hp, if_neg (by decide), List.append_nil]) | (rw [hct]; rfl))) (Slots.cons rfl (by first | exact .refl _ | exact .nilOwn _ _ | exact .nilSl _ | exact .ownSl _ _ _  | exact SV.le.ownEq (by first | rfl | (rw [filtS_take hx, hp, if_pos rfl, List.map_append]; rfl) | (rw [filtS_take hx, hp, if_neg (by decide), List.append_nil]) | (rw [hct]; rfl)) | exact SV.le.of_eq (by first | rfl | (rw [filtS_take hx, hp, if_pos rfl, List.map_append]; rfl) | (rw [filtS_take hx, hp, if_neg (by decide), List.append_nil]) | (rw [hct]; rfl))) (Slots.cons rfl (by first | exact .refl _ | exact .nilOwn _ _ | exact .nilSl _ | exact .ownSl _ _ _  | exact SV.le.ownEq (by first | rfl | (rw [filtS_take hx, hp, if_pos rfl, List.map_append]; rfl) | (rw [filtS_take hx, hp, if_neg (by decide), List.append_nil]) | (rw [hct]; rfl)) | exact SV.le.of_eq (by first | rfl | (rw [filtS_take hx, hp, if_pos rfl, List.map_append]; rfl) | (rw [filtS_take hx, hp, if_neg (by decide), List.append_nil]) | (rw [hct]; rfl))) Slots.nil))))), (by first | exact List.Sublist.refl _ | exact .cons_cons _ (.cons _ (.refl _)) | exact List.nil_sublist _ | exact .cons _ (.refl _) | exact .cons _ (.cons _ (.refl _)) | exact .cons _ (.cons _ (.cons _ (.refl _))) | exact .cons _ (.cons _ (.cons _ (.cons _ (.refl _)))) | exact .cons_cons _ (List.nil_sublist _))⟩, (by omega), ⟨i + 1, rfl, rfl, (by omega)⟩⟩
              ·
                refine g_skip rfl rfl hg49 rfl ?_
                refine g_skip rfl rfl hg49 rfl ?_
                refine g_skip rfl rfl hg49 rfl ?_
                refine g_skip rfl rfl hg49 rfl ?_
                refine g_skip rfl rfl hg49 rfl ?_
                refine g_skip rfl rfl hg49 rfl ?_
                refine g_skip rfl rfl hg49 rfl ?_
                refine g_skip rfl rfl hg49 rfl ?_
                refine g_run rfl rfl hg46 ?_
                refine r_pickF rfl hg49 rfl rfl ?_
                refine r_pickF rfl hg46 rfl rfl ?_
                refine awl_nil ?_
                refine x_then ?_
                refine awp_condF rfl ?_
                have hp : hitE name x = false := by first | (unfold hitE E0; rw [hg46, (by simpa using hg49 : decide (name = (⟨#[]⟩ : ByteArray)) = true)]; rfl) | (unfold hitE; rw [hg46, hc4, Bool.and_false]; rfl)
                refine awp_skip ?_
                refine x_then ?_
                refine awp_seq ?_
                refine awp_region ?_
                refine r_move rfl rfl ?_
                refine r_move rfl rfl ?_
                refine r_index rfl rfl rfl TF.sl28 TF.sz46 (by omega) (get_map hx) rfl ?_
                first | (refine r_fieldb rfl TF.f46_1 TF.sz44 rfl ?_) | (refine r_fieldcp rfl TF.f46_1 TF.sz44 rfl ?_)
                first | (refine r_fieldb rfl TF.f44_0 TF.sz3 rfl ?_) | (refine r_fieldcp rfl TF.f44_0 TF.sz3 rfl ?_)
                refine r_load1 rfl TF.agg3 rfl ?_
                refine r_cmp rfl rfl rfl rfl ?_
                refine awl_nil ?_
                refine x_then ?_
                refine awp_cond rfl (fun hc5 => ?_) (fun hc5 => ?_)
                ·
                  have hrn : renE x = true := hc5
                  refine awp_region ?_
                  refine r_move rfl rfl ?_
                  refine r_ari _ rfl rfl rfl (wrap_id (by first | omega | (simp; omega))) rfl ?_
                  refine r_assign rfl rfl ?_
                  refine awl_nil ?_
                  refine x_block ?_
                  refine x_then ?_
                  refine awp_region ?_
                  refine r_move rfl rfl ?_
                  refine r_ari _ rfl rfl rfl (wrap_id (by first | omega | (simp; omega))) rfl ?_
                  refine r_assign rfl rfl ?_
                  refine awl_nil ?_
                  refine x_then ?_
                  have hct : (E.take (i + 1)).countP renE = ((E.take i).countP renE) + cond (renE x) 1 0 := by rw [takeS hx, List.countP_append]; cases h : renE x <;> simp [h]
                  rw [hrn] at hct
                  refine ⟨E.length - (i + 1), ⟨101, [(2, .a (strA name)), (7, .a (evsA E)), (8, .own 8 5 (((E.take (i + 1)).filter (hitE name)).map Ev.cs)), (9, .a (.v (.int .i64 ((((E.take (i + 1)).countP renE) : Int))))), (10, .a (.v (.int .i64 (((i + 1) : Int)))))], []⟩, ⟨rfl, (Slots.cons rfl (by first | exact .refl _ | exact .nilOwn _ _ | exact .nilSl _ | exact .ownSl _ _ _  | exact SV.le.ownEq (by first | rfl | (rw [filtS_take hx, hp, if_pos rfl, List.map_append]; rfl) | (rw [filtS_take hx, hp, if_neg (by decide), List.append_nil]) | (rw [hct]; rfl)) | exact SV.le.of_eq (by first | rfl | (rw [filtS_take hx, hp, if_pos rfl, List.map_append]; rfl) | (rw [filtS_take hx, hp, if_neg (by decide), List.append_nil]) | (rw [hct]; rfl))) (Slots.cons rfl (by first | exact .refl _ | exact .nilOwn _ _ | exact .nilSl _ | exact .ownSl _ _ _  | exact SV.le.ownEq (by first | rfl | (rw [filtS_take hx, hp, if_pos rfl, List.map_append]; rfl) | (rw [filtS_take hx, hp, if_neg (by decide), List.append_nil]) | (rw [hct]; rfl)) | exact SV.le.of_eq (by first | rfl | (rw [filtS_take hx, hp, if_pos rfl, List.map_append]; rfl) | (rw [filtS_take hx, hp, if_neg (by decide), List.append_nil]) | (rw [hct]; rfl))) (Slots.cons rfl (by first | exact .refl _ | exact .nilOwn _ _ | exact .nilSl _ | exact .ownSl _ _ _  | exact SV.le.ownEq (by first | rfl | (rw [filtS_take hx, hp, if_pos rfl, List.map_append]; rfl) | (rw [filtS_take hx, hp, if_neg (by decide), List.append_nil]) | (rw [hct]; rfl)) | exact SV.le.of_eq (by first | rfl | (rw [filtS_take hx, hp, if_pos rfl, List.map_append]; rfl) | (rw [filtS_take hx, hp, if_neg (by decide), List.append_nil]) | (rw [hct]; rfl))) (Slots.cons rfl (by first | exact .refl _ | exact .nilOwn _ _ | exact .nilSl _ | exact .ownSl _ _ _  | exact SV.le.ownEq (by first | rfl | (rw [filtS_take hx, hp, if_pos rfl, List.map_append]; rfl) | (rw [filtS_take hx, hp, if_neg (by decide), List.append_nil]) | (rw [hct]; rfl)) | exact SV.le.of_eq (by first | rfl | (rw [filtS_take hx, hp, if_pos rfl, List.map_append]; rfl) | (rw [filtS_take hx, hp, if_neg (by decide), List.append_nil]) | (rw [hct]; rfl))) (Slots.cons rfl (by first | exact .refl _ | exact .nilOwn _ _ | exact .nilSl _ | exact .ownSl _ _ _  | exact SV.le.ownEq (by first | rfl | (rw [filtS_take hx, hp, if_pos rfl, List.map_append]; rfl) | (rw [filtS_take hx, hp, if_neg (by decide), List.append_nil]) | (rw [hct]; rfl)) | exact SV.le.of_eq (by first | rfl | (rw [filtS_take hx, hp, if_pos rfl, List.map_append]; rfl) | (rw [filtS_take hx, hp, if_neg (by decide), List.append_nil]) | (rw [hct]; rfl))) Slots.nil))))), (by first | exact List.Sublist.refl _ | exact .cons_cons _ (.cons _ (.refl _)) | exact List.nil_sublist _ | exact .cons _ (.refl _) | exact .cons _ (.cons _ (.refl _)) | exact .cons _ (.cons _ (.cons _ (.refl _))) | exact .cons _ (.cons _ (.cons _ (.cons _ (.refl _)))) | exact .cons_cons _ (List.nil_sublist _))⟩, (by omega), ⟨i + 1, rfl, rfl, (by omega)⟩⟩
                ·
                  have hrn : renE x = false := hc5
                  refine awp_skip ?_
                  refine x_block ?_
                  refine x_then ?_
                  refine awp_region ?_
                  refine r_move rfl rfl ?_
                  refine r_ari _ rfl rfl rfl (wrap_id (by first | omega | (simp; omega))) rfl ?_
                  refine r_assign rfl rfl ?_
                  refine awl_nil ?_
                  refine x_then ?_
                  have hct : (E.take (i + 1)).countP renE = ((E.take i).countP renE) + cond (renE x) 1 0 := by rw [takeS hx, List.countP_append]; cases h : renE x <;> simp [h]
                  rw [hrn] at hct
                  refine ⟨E.length - (i + 1), ⟨101, [(2, .a (strA name)), (7, .a (evsA E)), (8, .own 8 5 (((E.take (i + 1)).filter (hitE name)).map Ev.cs)), (9, .a (.v (.int .i64 ((((E.take (i + 1)).countP renE) : Int))))), (10, .a (.v (.int .i64 (((i + 1) : Int)))))], []⟩, ⟨rfl, (Slots.cons rfl (by first | exact .refl _ | exact .nilOwn _ _ | exact .nilSl _ | exact .ownSl _ _ _  | exact SV.le.ownEq (by first | rfl | (rw [filtS_take hx, hp, if_pos rfl, List.map_append]; rfl) | (rw [filtS_take hx, hp, if_neg (by decide), List.append_nil]) | (rw [hct]; rfl)) | exact SV.le.of_eq (by first | rfl | (rw [filtS_take hx, hp, if_pos rfl, List.map_append]; rfl) | (rw [filtS_take hx, hp, if_neg (by decide), List.append_nil]) | (rw [hct]; rfl))) (Slots.cons rfl (by first | exact .refl _ | exact .nilOwn _ _ | exact .nilSl _ | exact .ownSl _ _ _  | exact SV.le.ownEq (by first | rfl | (rw [filtS_take hx, hp, if_pos rfl, List.map_append]; rfl) | (rw [filtS_take hx, hp, if_neg (by decide), List.append_nil]) | (rw [hct]; rfl)) | exact SV.le.of_eq (by first | rfl | (rw [filtS_take hx, hp, if_pos rfl, List.map_append]; rfl) | (rw [filtS_take hx, hp, if_neg (by decide), List.append_nil]) | (rw [hct]; rfl))) (Slots.cons rfl (by first | exact .refl _ | exact .nilOwn _ _ | exact .nilSl _ | exact .ownSl _ _ _  | exact SV.le.ownEq (by first | rfl | (rw [filtS_take hx, hp, if_pos rfl, List.map_append]; rfl) | (rw [filtS_take hx, hp, if_neg (by decide), List.append_nil]) | (rw [hct]; rfl)) | exact SV.le.of_eq (by first | rfl | (rw [filtS_take hx, hp, if_pos rfl, List.map_append]; rfl) | (rw [filtS_take hx, hp, if_neg (by decide), List.append_nil]) | (rw [hct]; rfl))) (Slots.cons rfl (by first | exact .refl _ | exact .nilOwn _ _ | exact .nilSl _ | exact .ownSl _ _ _  | exact SV.le.ownEq (by first | rfl | (rw [filtS_take hx, hp, if_pos rfl, List.map_append]; rfl) | (rw [filtS_take hx, hp, if_neg (by decide), List.append_nil]) | (rw [hct]; rfl)) | exact SV.le.of_eq (by first | rfl | (rw [filtS_take hx, hp, if_pos rfl, List.map_append]; rfl) | (rw [filtS_take hx, hp, if_neg (by decide), List.append_nil]) | (rw [hct]; rfl))) (Slots.cons rfl (by first | exact .refl _ | exact .nilOwn _ _ | exact .nilSl _ | exact .ownSl _ _ _  | exact SV.le.ownEq (by first | rfl | (rw [filtS_take hx, hp, if_pos rfl, List.map_append]; rfl) | (rw [filtS_take hx, hp, if_neg (by decide), List.append_nil]) | (rw [hct]; rfl)) | exact SV.le.of_eq (by first | rfl | (rw [filtS_take hx, hp, if_pos rfl, List.map_append]; rfl) | (rw [filtS_take hx, hp, if_neg (by decide), List.append_nil]) | (rw [hct]; rfl))) Slots.nil))))), (by first | exact List.Sublist.refl _ | exact .cons_cons _ (.cons _ (.refl _)) | exact List.nil_sublist _ | exact .cons _ (.refl _) | exact .cons _ (.cons _ (.refl _)) | exact .cons _ (.cons _ (.cons _ (.refl _))) | exact .cons _ (.cons _ (.cons _ (.cons _ (.refl _)))) | exact .cons_cons _ (List.nil_sublist _))⟩, (by omega), ⟨i + 1, rfl, rfl, (by omega)⟩⟩
          ·
            have hge : E.length ≤ i := by have := of_decide_eq_false hc3; simp at this; omega
            have hit : E.take i = E := List.take_of_length_le hge
            rw [hit]
            have hcl : E.countP renE ≤ E.length := List.countP_le_length
            refine awp_exit ?_
            refine x_thenE ?_
            refine x_thenE ?_
            refine x_blockE ?_
            refine x_then ?_
            refine awp_seq ?_
            refine awp_region ?_
            refine r_assign rfl rfl ?_
            refine awl_nil ?_
            refine x_then ?_
            refine awp_seq ?_
            refine awp_seq ?_
            refine awp_region ?_
            refine r_assign rfl rfl ?_
            refine awl_nil ?_
            refine x_then ?_
            refine awp_block ?_
            refine awp_loop (fun nn0 S => ∃ i : Nat, S = ⟨101, [(2, .a (strA name)), (7, .a (evsA E)), (8, .own 8 5 ((E.filter (hitE name)).map Ev.cs)), (9, .a (.v (.int .i64 ((E.countP renE : Int))))), (11, .a (.v (.int .i64 ((manyF E i : Int))))), (12, .a (.v (.int .i64 ((i : Int)))))], []⟩ ∧ nn0 = 4 - i ∧ (i ≤ 4)) (4 - (0)) ⟨101, [(2, .a (strA name)), (7, .a (evsA E)), (8, .own 8 5 ((E.filter (hitE name)).map Ev.cs)), (9, .a (.v (.int .i64 ((E.countP renE : Int))))), (11, .a (.v (.int .i64 ((manyF E (0) : Int))))), (12, .a (.v (.int .i64 (((0) : Int)))))], []⟩ ⟨rfl, (Slots.cons rfl (by first | exact .refl _ | exact .nilOwn _ _ | exact .nilSl _ | exact .ownSl _ _ _  | exact SV.le.ownEq (by simp [manyF]) | exact SV.le.of_eq (by simp [manyF])) (Slots.cons rfl (by first | exact .refl _ | exact .nilOwn _ _ | exact .nilSl _ | exact .ownSl _ _ _  | exact SV.le.ownEq (by simp [manyF]) | exact SV.le.of_eq (by simp [manyF])) (Slots.cons rfl (by first | exact .refl _ | exact .nilOwn _ _ | exact .nilSl _ | exact .ownSl _ _ _  | exact SV.le.ownEq (by simp [manyF]) | exact SV.le.of_eq (by simp [manyF])) (Slots.cons rfl (by first | exact .refl _ | exact .nilOwn _ _ | exact .nilSl _ | exact .ownSl _ _ _  | exact SV.le.ownEq (by simp [manyF]) | exact SV.le.of_eq (by simp [manyF])) (Slots.cons rfl (by first | exact .refl _ | exact .nilOwn _ _ | exact .nilSl _ | exact .ownSl _ _ _  | exact SV.le.ownEq (by simp [manyF]) | exact SV.le.of_eq (by simp [manyF])) (Slots.cons rfl (by first | exact .refl _ | exact .nilOwn _ _ | exact .nilSl _ | exact .ownSl _ _ _  | exact SV.le.ownEq (by simp [manyF]) | exact SV.le.of_eq (by simp [manyF])) Slots.nil)))))), (by first | exact List.Sublist.refl _ | exact .cons_cons _ (.cons _ (.refl _)) | exact List.nil_sublist _ | exact .cons _ (.refl _) | exact .cons _ (.cons _ (.refl _)) | exact .cons _ (.cons _ (.cons _ (.refl _))) | exact .cons _ (.cons _ (.cons _ (.cons _ (.refl _)))) | exact .cons_cons _ (List.nil_sublist _))⟩ ⟨0, rfl, rfl, (by omega)⟩ ?_
            rintro nn0 _ ⟨i, rfl, rfl, hi⟩
            refine awp_seq ?_
            refine awp_seq ?_
            refine awp_region ?_
            refine r_move rfl rfl ?_
            refine r_cmp rfl rfl rfl rfl ?_
            refine awl_nil ?_
            refine x_then ?_
            refine awp_cond rfl (fun hc6 => ?_) (fun hc6 => ?_)
            ·
              have hi4 : i < 4 := by have := of_decide_eq_true hc6; omega
              have hml := many_le E i
              have hfl2 := file_len E (nm i)
              have hml2 : i * E.length ≤ 4 * 48 := Nat.mul_le_mul (by omega) hEl
              refine awp_skip ?_
              refine x_then ?_
              refine awp_seq ?_
              refine awp_block ?_
              refine awp_region ?_
              refine r_move rfl rfl ?_
              refine r_move rfl rfl ?_
              refine r_move rfl rfl ?_
              refine r_call0 hq rfl rfl (.cons (.ev rfl rfl) .nil) (name_ok i hi4) rfl TF.en21 rfl (fun r hr => ?_)
              obtain rfl := hr
              refine r_call0 hq rfl rfl (.cons (.ev rfl rfl) (.cons (.ev rfl rfl) .nil)) (tfile_ok E (nm i) (by omega) (fun e he => (hEg e he).data)) rfl TF.en20 rfl (fun r hr => ?_)
              obtain rfl := hr
              first | (refine r_lenS rfl rfl TF.sl28 rfl ?_) | (refine r_lenNil rfl TF.sl28 rfl ?_) | (refine r_lenV rfl TF.sl28 rfl ?_)
              refine r_ari _ rfl rfl rfl (wrap_id (by first | omega | (simp; omega))) rfl ?_
              refine r_assign rfl rfl ?_
              refine awl_nil ?_
              refine x_block ?_
              refine x_then ?_
              refine awp_region ?_
              refine r_move rfl rfl ?_
              refine r_ari _ rfl rfl rfl (wrap_id (by first | omega | (simp; omega))) rfl ?_
              refine r_assign rfl rfl ?_
              refine awl_nil ?_
              refine x_then ?_
              refine ⟨4 - (i + 1), ⟨101, [(2, .a (strA name)), (7, .a (evsA E)), (8, .own 8 5 ((E.filter (hitE name)).map Ev.cs)), (9, .a (.v (.int .i64 ((E.countP renE : Int))))), (11, .a (.v (.int .i64 ((manyF E (i + 1) : Int))))), (12, .a (.v (.int .i64 (((i + 1) : Int)))))], []⟩, ⟨rfl, (Slots.cons rfl (by first | exact .refl _ | exact .nilOwn _ _ | exact .nilSl _ | exact .ownSl _ _ _  | exact SV.le.ownEq (by first | rfl | (rw [many_step]; simp)) | exact SV.le.of_eq (by first | rfl | (rw [many_step]; simp))) (Slots.cons rfl (by first | exact .refl _ | exact .nilOwn _ _ | exact .nilSl _ | exact .ownSl _ _ _  | exact SV.le.ownEq (by first | rfl | (rw [many_step]; simp)) | exact SV.le.of_eq (by first | rfl | (rw [many_step]; simp))) (Slots.cons rfl (by first | exact .refl _ | exact .nilOwn _ _ | exact .nilSl _ | exact .ownSl _ _ _  | exact SV.le.ownEq (by first | rfl | (rw [many_step]; simp)) | exact SV.le.of_eq (by first | rfl | (rw [many_step]; simp))) (Slots.cons rfl (by first | exact .refl _ | exact .nilOwn _ _ | exact .nilSl _ | exact .ownSl _ _ _  | exact SV.le.ownEq (by first | rfl | (rw [many_step]; simp)) | exact SV.le.of_eq (by first | rfl | (rw [many_step]; simp))) (Slots.cons rfl (by first | exact .refl _ | exact .nilOwn _ _ | exact .nilSl _ | exact .ownSl _ _ _  | exact SV.le.ownEq (by first | rfl | (rw [many_step]; simp)) | exact SV.le.of_eq (by first | rfl | (rw [many_step]; simp))) (Slots.cons rfl (by first | exact .refl _ | exact .nilOwn _ _ | exact .nilSl _ | exact .ownSl _ _ _  | exact SV.le.ownEq (by first | rfl | (rw [many_step]; simp)) | exact SV.le.of_eq (by first | rfl | (rw [many_step]; simp))) Slots.nil)))))), (by first | exact List.Sublist.refl _ | exact .cons_cons _ (.cons _ (.refl _)) | exact List.nil_sublist _ | exact .cons _ (.refl _) | exact .cons _ (.cons _ (.refl _)) | exact .cons _ (.cons _ (.cons _ (.refl _))) | exact .cons _ (.cons _ (.cons _ (.cons _ (.refl _)))) | exact .cons_cons _ (List.nil_sublist _))⟩, (by omega), ⟨i + 1, rfl, rfl, (by omega)⟩⟩
            ·
              have hi4 : ¬ i < 4 := by have := of_decide_eq_false hc6; omega
              obtain rfl : i = 4 := by omega
              have hma := many_all hEg
              refine awp_exit ?_
              refine x_thenE ?_
              refine x_thenE ?_
              refine x_blockE ?_
              refine x_then ?_
              refine awp_seq ?_
              refine awp_region ?_
              refine r_move rfl rfl ?_
              refine r_move rfl rfl ?_
              refine r_call0 hq rfl rfl (.cons (.ev rfl rfl) (.cons (.ev rfl rfl) .nil)) (tfile_ok E name (by omega) (fun e he => (hEg e he).data)) rfl TF.en20 rfl (fun r hr => ?_)
              obtain rfl := hr
              refine r_move rfl rfl ?_
              refine r_call0 hq rfl rfl (.cons (.ev rfl rfl) (.cons (.ev rfl rfl) .nil)) (same_ok (fileF E name) (by have := file_len E name; omega)) rfl TF.en19 rfl (fun r hr => ?_)
              obtain rfl := hr
              refine r_cmp rfl rfl rfl rfl ?_
              refine r_move rfl rfl ?_
              refine g_run rfl rfl rfl ?_
              refine r_move rfl rfl ?_
              refine g_run rfl rfl rfl ?_
              refine r_move rfl rfl ?_
              refine g_run rfl rfl rfl ?_
              first | (refine r_lenS rfl rfl TF.sl28 rfl ?_) | (refine r_lenNil rfl TF.sl28 rfl ?_) | (refine r_lenV rfl TF.sl28 rfl ?_)
              refine g_run rfl rfl rfl ?_
              refine r_move rfl rfl ?_
              refine g_run rfl rfl rfl ?_
              refine r_ari _ rfl rfl rfl (wrap_id (by first | omega | (simp; omega))) rfl ?_
              refine g_run rfl rfl rfl ?_
              refine r_cmp rfl rfl rfl rfl ?_
              refine r_pickT rfl rfl rfl rfl ?_
              refine r_assign rfl rfl ?_
              refine awl_nil ?_
              refine x_then ?_
              refine awp_ret ?_
              exact ⟨(.inl rfl), _, [], (.one (by first | exact .mk rfl rfl | exact .nil rfl)), ⟨rfl, by first | rfl | (rw [hma]; simp [SV.av, boolA])⟩, (List.nil_sublist _), (by simp)⟩

set_option maxHeartbeats 2000000 in
theorem parts_walk (ms : List Int) (ds : List Disk) (hok : ∀ d ∈ ds, OkD d) (cut : Nat) (hcut : cut < 256) : AC Try.prog 4 [numsA ms, disksA ds, .v (.int .u8 (cut : Int))] [] (fun r n => n = [] ∧ r = boolA true) := by
  refine ac_of_awp (rs := [6]) (nt := 109) Try.func4 rfl rfl rfl rfl (fun w0 C0 hq => ?_)
  refine awp_seq ?_
  refine awp_region ?_
  refine r_assign rfl rfl ?_
  refine awl_nil ?_
  refine x_then ?_
  refine awp_seq ?_
  refine awp_seq ?_
  refine awp_region ?_
  refine r_call0 hq rfl rfl .nil (awake_ok) rfl TF.en11 rfl (fun r hr => ?_)
  obtain rfl := hr
  refine r_not rfl rfl ?_
  refine awl_nil ?_
  refine x_then ?_
  refine awp_cond rfl (fun hc0 => ?_) (fun hc0 => ?_)
  ·
    exfalso; exact absurd hc0 (by decide)
  ·
    refine awp_skip ?_
    refine x_then ?_
    refine awp_seq ?_
    refine awp_seq ?_
    refine awp_region ?_
    refine r_move rfl rfl ?_
    refine r_move rfl rfl ?_
    refine r_call0 hq rfl rfl (.cons (.ev rfl rfl) (.cons (.ev rfl rfl) .nil)) (great_ok ms ds) rfl TF.en12 rfl (fun r hr => ?_)
    rcases hr with rfl | ⟨rfl, hm12, hd12⟩
    
    ·
      refine r_cmp rfl rfl rfl rfl ?_
      refine r_move rfl rfl ?_
      refine g_skip rfl rfl rfl rfl ?_
      refine g_skip rfl rfl rfl rfl ?_
      refine g_skip rfl rfl rfl rfl ?_
      refine r_pickT rfl rfl rfl rfl ?_
      refine r_move rfl rfl ?_
      refine g_skip rfl rfl rfl rfl ?_
      refine g_skip rfl rfl rfl rfl ?_
      refine g_skip rfl rfl rfl rfl ?_
      refine r_pickT rfl rfl rfl rfl ?_
      refine awl_nil ?_
      refine x_then ?_
      refine awp_condT rfl ?_
      refine awp_seq ?_
      refine awp_region ?_
      refine r_assign rfl rfl ?_
      refine awl_nil ?_
      refine x_then ?_
      refine awp_ret ?_
      refine x_thenR ?_
      exact ⟨(.inl rfl), _, [], (.one (by first | exact .mk rfl rfl | exact .nil rfl)), ⟨rfl, rfl⟩, (List.nil_sublist _), (by simp)⟩
    ·
      refine r_cmp rfl rfl rfl rfl ?_
      refine r_move rfl rfl ?_
      refine g_run rfl rfl rfl ?_
      refine r_move rfl rfl ?_
      refine g_run rfl rfl rfl ?_
      refine r_call0 hq rfl rfl (.cons (.ev rfl rfl) .nil) (rrise_ok ms (by omega)) rfl TF.en16 rfl (fun r hr => ?_)
      obtain rfl := hr
      refine g_run rfl rfl rfl ?_
      refine r_not rfl rfl ?_
      refine r_pickF rfl rfl rfl rfl ?_
      refine r_move rfl rfl ?_
      refine g_cases (t' := 27) rfl (fun hg27 => ?_) (fun hg27 => ?_)
      ·
        refine g_skip rfl rfl hg27 rfl ?_
        refine g_skip rfl rfl hg27 rfl ?_
        refine g_skip rfl rfl hg27 rfl ?_
        refine r_pickT rfl hg27 rfl rfl ?_
        refine awl_nil ?_
        refine x_then ?_
        refine awp_condT rfl ?_
        refine awp_seq ?_
        refine awp_region ?_
        refine r_assign rfl rfl ?_
        refine awl_nil ?_
        refine x_then ?_
        refine awp_ret ?_
        refine x_thenR ?_
        exact ⟨(.inl rfl), _, [], (.one (by first | exact .mk rfl rfl | exact .nil rfl)), ⟨rfl, rfl⟩, (List.nil_sublist _), (by simp)⟩
      ·
        have hrf : riseF ms = true := by simpa using hg27
        refine g_run rfl rfl hg27 ?_
        refine r_move rfl rfl ?_
        refine g_run rfl rfl hg27 ?_
        first | (refine r_lenS rfl rfl TF.sl22 rfl ?_) | (refine r_lenNil rfl TF.sl22 rfl ?_) | (refine r_lenV rfl TF.sl22 rfl ?_)
        refine g_run rfl rfl hg27 ?_
        refine r_cmp rfl rfl rfl rfl ?_
        refine r_pickF rfl hg27 rfl rfl ?_
        refine awl_nil ?_
        refine x_then ?_
        refine awp_cond rfl (fun hc1 => ?_) (fun hc1 => ?_)
        ·
          refine awp_seq ?_
          refine awp_region ?_
          refine r_assign rfl rfl ?_
          refine awl_nil ?_
          refine x_then ?_
          refine awp_ret ?_
          refine x_thenR ?_
          exact ⟨(.inl rfl), _, [], (.one (by first | exact .mk rfl rfl | exact .nil rfl)), ⟨rfl, rfl⟩, (List.nil_sublist _), (by simp)⟩
        ·
          have hne : 0 < ms.length := by simp at hc1; exact List.length_pos_iff.2 hc1
          obtain ⟨k, hkk⟩ : ∃ k, k = cut % ms.length := ⟨_, rfl⟩
          have hkl : k < ms.length := by rw [hkk]; exact Nat.mod_lt _ hne
          have hrem : (cut : Int).tmod (((ms.map fun m => [AV.v (.int .u64 m)]).length : Nat) : Int) = (k : Int) := by rw [hkk, len_num]; exact (Int.ofNat_tmod cut ms.length).symm
          have hp := rise_pw hrf
          refine awp_skip ?_
          refine x_then ?_
          refine awp_seq ?_
          refine awp_region ?_
          refine r_move rfl rfl ?_
          refine r_conv (cut : Int) rfl TF.un5 TF.un3 (wrap_id (by omega)) rfl ?_
          refine r_move rfl rfl ?_
          first | (refine r_lenS rfl rfl TF.sl22 rfl ?_) | (refine r_lenNil rfl TF.sl22 rfl ?_) | (refine r_lenV rfl TF.sl22 rfl ?_)
          refine r_div (k : Int) rfl rfl (rem_some (by simp; intro h; subst h; simp at hne)) hrem rfl ?_
          refine r_assign rfl rfl ?_
          refine awl_nil ?_
          refine x_then ?_
          refine awp_seq ?_
          refine awp_region ?_
          refine r_move rfl rfl ?_
          refine r_move rfl rfl ?_
          refine r_call0 hq rfl rfl (.cons (.ev rfl rfl) (.cons (.ev rfl rfl) .nil)) (at_ok ms ds) rfl TF.en13 rfl (fun r hr => ?_)
          obtain rfl := hr
          refine r_assign rfl rfl ?_
          refine awl_nil ?_
          refine x_then ?_
          refine awp_seq ?_
          refine awp_drawS [40, 41, 42, 43, 44, 45, 46] [_, _, _, _, _, _, _] [] [] TF.mixed rfl rfl rfl ⟨⟨⟨⟨⟨⟨⟨trivial
            , ⟨_, rfl, fun sl hd hr ho => by
                refine r_move (hr 0 _ rfl rfl rfl) rfl ?_
                exact awl_nil ⟨rfl, post_put⟩⟩⟩
            , ⟨_, rfl, fun sl hd hr ho => by
                refine r_move (hr 8 _ rfl rfl rfl) rfl ?_
                exact awl_nil ⟨rfl, post_put⟩⟩⟩
            , ⟨_, rfl, fun sl hd hr ho => by
                refine r_call0 hq rfl rfl (.cons (.ev (hd 0 _ rfl rfl rfl) rfl) (.cons (.ev (hd 1 _ rfl rfl rfl) rfl) .nil)) (tlD_ok ms (by omega) ms ds (by omega) hok) rfl TF.en14 rfl (fun r hr => ?_)
                obtain rfl := hr
                exact awl_nil ⟨rfl, post_put⟩⟩⟩
            , ⟨_, rfl, fun sl hd hr ho => by
                refine r_move (hr 0 _ rfl rfl rfl) rfl ?_
                exact awl_nil ⟨rfl, post_put⟩⟩⟩
            , ⟨_, rfl, fun sl hd hr ho => by
                refine r_move (hr 7 _ rfl rfl rfl) rfl ?_
                exact awl_nil ⟨rfl, post_put⟩⟩⟩
            , ⟨_, rfl, fun sl hd hr ho => by
                refine r_sliceHe ((ms.take k).map fun m => [AV.v (.int .u64 m)]) (by simp [List.map_take]) (hd 3 _ rfl rfl rfl) rfl (hd 4 _ rfl rfl rfl) TF.sl22 TF.sz30 (by omega) (by simp; omega) rfl ?_
                exact awl_nil ⟨rfl, post_put⟩⟩⟩
            , ⟨_, rfl, fun sl hd hr ho => by
                refine r_move (hr 8 _ rfl rfl rfl) rfl ?_
                exact awl_nil ⟨rfl, post_put⟩⟩⟩
            (by rfl) ?_
          refine r_call0 hq rfl rfl (.cons (.ev rfl rfl) (.cons (.ev rfl rfl) .nil)) (tlD_ok (ms.take k) (by simp; omega) ms ds (by omega) hok) rfl TF.en14 rfl (fun r hr => ?_)
          obtain rfl := hr
          refine r_assign rfl rfl ?_
          refine r_assign rfl rfl ?_
          refine awl_nil ?_
          refine x_then ?_
          refine awp_seq ?_
          refine awp_region ?_
          refine r_assign rfl rfl ?_
          refine awl_nil ?_
          refine x_then ?_
          refine awp_seq ?_
          refine awp_seq ?_
          refine awp_region ?_
          refine r_assign rfl rfl ?_
          refine awl_nil ?_
          refine x_then ?_
          refine awp_block ?_
          refine awp_loop (fun nn0 S => ∃ i : Nat, ∃ fr : Nat, S = ⟨109, [(0, .a (numsA ms)), (1, .a (disksA ds)), (7, .a (.v (.int .i64 ((k : Int))))), (8, .a (.fn 30 [.cp [numsA ms], .cp [disksA ds]])), (9, .a (evsA (tlF ms (atF ms ds)))), (10, .a (evsA (tlF (ms.take k) (atF ms ds)))), (11, .a (.v (.int .i64 ((fr : Int))))), (12, .a (.v (.int .i64 ((i : Int)))))], []⟩ ∧ nn0 = k - i ∧ (i ≤ k) ∧ (FromOk ds i fr)) (k - (0)) ⟨109, [(0, .a (numsA ms)), (1, .a (disksA ds)), (7, .a (.v (.int .i64 ((k : Int))))), (8, .a (.fn 30 [.cp [numsA ms], .cp [disksA ds]])), (9, .a (evsA (tlF ms (atF ms ds)))), (10, .a (evsA (tlF (ms.take k) (atF ms ds)))), (11, .a (.v (.int .i64 (((0) : Int))))), (12, .a (.v (.int .i64 (((0) : Int)))))], []⟩ ⟨rfl, (Slots.cons rfl (by first | exact .refl _ | exact .nilOwn _ _ | exact .nilSl _ | exact .ownSl _ _ _  | exact SV.le.of_eq (by simp)) (Slots.cons rfl (by first | exact .refl _ | exact .nilOwn _ _ | exact .nilSl _ | exact .ownSl _ _ _  | exact SV.le.of_eq (by simp)) (Slots.cons rfl (by first | exact .refl _ | exact .nilOwn _ _ | exact .nilSl _ | exact .ownSl _ _ _  | exact SV.le.of_eq (by simp)) (Slots.cons rfl (by first | exact .refl _ | exact .nilOwn _ _ | exact .nilSl _ | exact .ownSl _ _ _  | exact SV.le.of_eq (by simp)) (Slots.cons rfl (by first | exact .refl _ | exact .nilOwn _ _ | exact .nilSl _ | exact .ownSl _ _ _  | exact SV.le.of_eq (by simp)) (Slots.cons rfl (by first | exact .refl _ | exact .nilOwn _ _ | exact .nilSl _ | exact .ownSl _ _ _  | exact SV.le.of_eq (by simp)) (Slots.cons rfl (by first | exact .refl _ | exact .nilOwn _ _ | exact .nilSl _ | exact .ownSl _ _ _  | exact SV.le.of_eq (by simp)) (Slots.cons rfl (by first | exact .refl _ | exact .nilOwn _ _ | exact .nilSl _ | exact .ownSl _ _ _  | exact SV.le.of_eq (by simp)) Slots.nil)))))))), (by first | exact List.Sublist.refl _ | exact .cons_cons _ (.cons _ (.refl _)) | exact List.nil_sublist _ | exact .cons _ (.refl _) | exact .cons _ (.cons _ (.refl _)) | exact .cons _ (.cons _ (.cons _ (.refl _))) | exact .cons _ (.cons _ (.cons _ (.cons _ (.refl _)))) | exact .cons_cons _ (List.nil_sublist _))⟩ ⟨0, 0, rfl, rfl, Nat.zero_le _, (.inr ⟨rfl, fun j hj => by omega⟩)⟩ ?_
          rintro nn0 _ ⟨i, fr, rfl, rfl, hi, hfr⟩
          refine awp_seq ?_
          refine awp_seq ?_
          refine awp_region ?_
          refine r_move rfl rfl ?_
          refine r_move rfl rfl ?_
          refine r_cmp rfl rfl rfl rfl ?_
          refine awl_nil ?_
          refine x_then ?_
          refine awp_cond rfl (fun hc2 => ?_) (fun hc2 => ?_)
          ·
            have hik : i < k := by have := of_decide_eq_true hc2; omega
            refine awp_skip ?_
            refine x_then ?_
            refine awp_seq ?_
            refine awp_block ?_
            refine awp_seq ?_
            refine awp_region ?_
            refine r_move rfl rfl ?_
            refine r_move rfl rfl ?_
            first | (refine r_lenS rfl rfl TF.sl23 rfl ?_) | (refine r_lenNil rfl TF.sl23 rfl ?_) | (refine r_lenV rfl TF.sl23 rfl ?_)
            refine r_cmp rfl rfl rfl rfl ?_
            refine r_move rfl rfl ?_
            refine g_cases (t' := 57) rfl (fun hg57 => ?_) (fun hg57 => ?_)
            ·
              obtain ⟨d, hdk⟩ := get_lt (show i < ds.length by have := of_decide_eq_true hg57; simpa using this)
              refine g_run rfl rfl hg57 ?_
              refine r_move rfl rfl ?_
              refine g_run rfl rfl hg57 ?_
              refine r_move rfl rfl ?_
              refine g_run rfl rfl hg57 ?_
              refine r_index rfl rfl rfl TF.sl23 TF.sz38 (by omega) (get_map hdk) rfl ?_
              refine g_run rfl rfl hg57 ?_
              first | (refine r_fieldb rfl TF.f38_0 TF.sz4 rfl ?_) | (refine r_fieldcp rfl TF.f38_0 TF.sz4 rfl ?_)
              refine g_run rfl rfl hg57 ?_
              refine r_load1 rfl TF.agg4 rfl ?_
              refine r_pickT rfl hg57 rfl rfl ?_
              refine awl_nil ?_
              refine x_then ?_
              refine awp_cond rfl (fun hc3 => ?_) (fun hc3 => ?_)
              ·
                have htd : toldAt ds i := ⟨d, hdk, hc3⟩
                refine awp_region ?_
                refine r_move rfl rfl ?_
                refine r_assign rfl rfl ?_
                refine awl_nil ?_
                refine x_block ?_
                refine x_then ?_
                refine awp_region ?_
                refine r_move rfl rfl ?_
                refine r_ari _ rfl rfl rfl (wrap_id (by first | omega | (simp; omega))) rfl ?_
                refine r_assign rfl rfl ?_
                refine awl_nil ?_
                refine x_then ?_
                refine ⟨k - (i + 1), ⟨109, [(0, .a (numsA ms)), (1, .a (disksA ds)), (7, .a (.v (.int .i64 ((k : Int))))), (8, .a (.fn 30 [.cp [numsA ms], .cp [disksA ds]])), (9, .a (evsA (tlF ms (atF ms ds)))), (10, .a (evsA (tlF (ms.take k) (atF ms ds)))), (11, .a (.v (.int .i64 (((i) : Int))))), (12, .a (.v (.int .i64 (((i + 1) : Int)))))], []⟩, ⟨rfl, (Slots.cons rfl (by first | exact .refl _ | exact .nilOwn _ _ | exact .nilSl _ | exact .ownSl _ _ _  | exact SV.le.of_eq (by simp)) (Slots.cons rfl (by first | exact .refl _ | exact .nilOwn _ _ | exact .nilSl _ | exact .ownSl _ _ _  | exact SV.le.of_eq (by simp)) (Slots.cons rfl (by first | exact .refl _ | exact .nilOwn _ _ | exact .nilSl _ | exact .ownSl _ _ _  | exact SV.le.of_eq (by simp)) (Slots.cons rfl (by first | exact .refl _ | exact .nilOwn _ _ | exact .nilSl _ | exact .ownSl _ _ _  | exact SV.le.of_eq (by simp)) (Slots.cons rfl (by first | exact .refl _ | exact .nilOwn _ _ | exact .nilSl _ | exact .ownSl _ _ _  | exact SV.le.of_eq (by simp)) (Slots.cons rfl (by first | exact .refl _ | exact .nilOwn _ _ | exact .nilSl _ | exact .ownSl _ _ _  | exact SV.le.of_eq (by simp)) (Slots.cons rfl (by first | exact .refl _ | exact .nilOwn _ _ | exact .nilSl _ | exact .ownSl _ _ _  | exact SV.le.of_eq (by simp)) (Slots.cons rfl (by first | exact .refl _ | exact .nilOwn _ _ | exact .nilSl _ | exact .ownSl _ _ _  | exact SV.le.of_eq (by simp)) Slots.nil)))))))), (by first | exact List.Sublist.refl _ | exact .cons_cons _ (.cons _ (.refl _)) | exact List.nil_sublist _ | exact .cons _ (.refl _) | exact .cons _ (.cons _ (.refl _)) | exact .cons _ (.cons _ (.cons _ (.refl _))) | exact .cons _ (.cons _ (.cons _ (.cons _ (.refl _)))) | exact .cons_cons _ (List.nil_sublist _))⟩, (by omega), ⟨i + 1, i, rfl, rfl, (by omega), ((from_step hfr).1 htd)⟩⟩
              ·
                try (have hnt : ¬ toldAt ds i := fun ⟨d', h1, h2⟩ => by rw [hdk] at h1; cases h1; rw [hc3] at h2; cases h2)
                refine awp_skip ?_
                refine x_block ?_
                refine x_then ?_
                refine awp_region ?_
                refine r_move rfl rfl ?_
                refine r_ari _ rfl rfl rfl (wrap_id (by first | omega | (simp; omega))) rfl ?_
                refine r_assign rfl rfl ?_
                refine awl_nil ?_
                refine x_then ?_
                refine ⟨k - (i + 1), ⟨109, [(0, .a (numsA ms)), (1, .a (disksA ds)), (7, .a (.v (.int .i64 ((k : Int))))), (8, .a (.fn 30 [.cp [numsA ms], .cp [disksA ds]])), (9, .a (evsA (tlF ms (atF ms ds)))), (10, .a (evsA (tlF (ms.take k) (atF ms ds)))), (11, .a (.v (.int .i64 (((fr) : Int))))), (12, .a (.v (.int .i64 (((i + 1) : Int)))))], []⟩, ⟨rfl, (Slots.cons rfl (by first | exact .refl _ | exact .nilOwn _ _ | exact .nilSl _ | exact .ownSl _ _ _  | exact SV.le.of_eq (by simp)) (Slots.cons rfl (by first | exact .refl _ | exact .nilOwn _ _ | exact .nilSl _ | exact .ownSl _ _ _  | exact SV.le.of_eq (by simp)) (Slots.cons rfl (by first | exact .refl _ | exact .nilOwn _ _ | exact .nilSl _ | exact .ownSl _ _ _  | exact SV.le.of_eq (by simp)) (Slots.cons rfl (by first | exact .refl _ | exact .nilOwn _ _ | exact .nilSl _ | exact .ownSl _ _ _  | exact SV.le.of_eq (by simp)) (Slots.cons rfl (by first | exact .refl _ | exact .nilOwn _ _ | exact .nilSl _ | exact .ownSl _ _ _  | exact SV.le.of_eq (by simp)) (Slots.cons rfl (by first | exact .refl _ | exact .nilOwn _ _ | exact .nilSl _ | exact .ownSl _ _ _  | exact SV.le.of_eq (by simp)) (Slots.cons rfl (by first | exact .refl _ | exact .nilOwn _ _ | exact .nilSl _ | exact .ownSl _ _ _  | exact SV.le.of_eq (by simp)) (Slots.cons rfl (by first | exact .refl _ | exact .nilOwn _ _ | exact .nilSl _ | exact .ownSl _ _ _  | exact SV.le.of_eq (by simp)) Slots.nil)))))))), (by first | exact List.Sublist.refl _ | exact .cons_cons _ (.cons _ (.refl _)) | exact List.nil_sublist _ | exact .cons _ (.refl _) | exact .cons _ (.cons _ (.refl _)) | exact .cons _ (.cons _ (.cons _ (.refl _))) | exact .cons _ (.cons _ (.cons _ (.cons _ (.refl _)))) | exact .cons_cons _ (List.nil_sublist _))⟩, (by omega), ⟨i + 1, fr, rfl, rfl, (by omega), ((from_step hfr).2 hnt)⟩⟩
            ·
              have hnt : ¬ toldAt ds i := fun ⟨d, h1, _⟩ => by rw [List.getElem?_eq_none (by have := of_decide_eq_false hg57; simp at this; omega)] at h1; cases h1
              refine g_skip rfl rfl hg57 rfl ?_
              refine g_skip rfl rfl hg57 rfl ?_
              refine g_skip rfl rfl hg57 rfl ?_
              refine g_skip rfl rfl hg57 rfl ?_
              refine g_skip rfl rfl hg57 rfl ?_
              refine r_pickF rfl hg57 rfl rfl ?_
              refine awl_nil ?_
              refine x_then ?_
              refine awp_condF rfl ?_
              try (have hnt : ¬ toldAt ds i := fun ⟨d', h1, h2⟩ => by rw [hdk] at h1; cases h1; rw [hc3] at h2; cases h2)
              refine awp_skip ?_
              refine x_block ?_
              refine x_then ?_
              refine awp_region ?_
              refine r_move rfl rfl ?_
              refine r_ari _ rfl rfl rfl (wrap_id (by first | omega | (simp; omega))) rfl ?_
              refine r_assign rfl rfl ?_
              refine awl_nil ?_
              refine x_then ?_
              refine ⟨k - (i + 1), ⟨109, [(0, .a (numsA ms)), (1, .a (disksA ds)), (7, .a (.v (.int .i64 ((k : Int))))), (8, .a (.fn 30 [.cp [numsA ms], .cp [disksA ds]])), (9, .a (evsA (tlF ms (atF ms ds)))), (10, .a (evsA (tlF (ms.take k) (atF ms ds)))), (11, .a (.v (.int .i64 (((fr) : Int))))), (12, .a (.v (.int .i64 (((i + 1) : Int)))))], []⟩, ⟨rfl, (Slots.cons rfl (by first | exact .refl _ | exact .nilOwn _ _ | exact .nilSl _ | exact .ownSl _ _ _  | exact SV.le.of_eq (by simp)) (Slots.cons rfl (by first | exact .refl _ | exact .nilOwn _ _ | exact .nilSl _ | exact .ownSl _ _ _  | exact SV.le.of_eq (by simp)) (Slots.cons rfl (by first | exact .refl _ | exact .nilOwn _ _ | exact .nilSl _ | exact .ownSl _ _ _  | exact SV.le.of_eq (by simp)) (Slots.cons rfl (by first | exact .refl _ | exact .nilOwn _ _ | exact .nilSl _ | exact .ownSl _ _ _  | exact SV.le.of_eq (by simp)) (Slots.cons rfl (by first | exact .refl _ | exact .nilOwn _ _ | exact .nilSl _ | exact .ownSl _ _ _  | exact SV.le.of_eq (by simp)) (Slots.cons rfl (by first | exact .refl _ | exact .nilOwn _ _ | exact .nilSl _ | exact .ownSl _ _ _  | exact SV.le.of_eq (by simp)) (Slots.cons rfl (by first | exact .refl _ | exact .nilOwn _ _ | exact .nilSl _ | exact .ownSl _ _ _  | exact SV.le.of_eq (by simp)) (Slots.cons rfl (by first | exact .refl _ | exact .nilOwn _ _ | exact .nilSl _ | exact .ownSl _ _ _  | exact SV.le.of_eq (by simp)) Slots.nil)))))))), (by first | exact List.Sublist.refl _ | exact .cons_cons _ (.cons _ (.refl _)) | exact List.nil_sublist _ | exact .cons _ (.refl _) | exact .cons _ (.cons _ (.refl _)) | exact .cons _ (.cons _ (.cons _ (.refl _))) | exact .cons _ (.cons _ (.cons _ (.cons _ (.refl _)))) | exact .cons_cons _ (List.nil_sublist _))⟩, (by omega), ⟨i + 1, fr, rfl, rfl, (by omega), ((from_step hfr).2 hnt)⟩⟩
          ·
            obtain rfl : i = k := by have := of_decide_eq_false hc2; omega
            have hfk : fr ≤ i := by rcases hfr with ⟨h, _⟩ | ⟨h, _⟩ <;> omega
            have hlaw := parts_law hrf hkl hfr
            obtain ⟨R, hR⟩ : ∃ R, R = tlF (ms.drop fr) (atF ms ds) := ⟨_, rfl⟩
            rw [← hR] at hlaw
            have hRl : R.length ≤ 48 := by rw [hR]; have := tlF_len (ms.drop fr) ms ds; simp at this; omega
            obtain ⟨F1, hF1⟩ : ∃ F1, F1 = tlF (ms.take i) (atF ms ds) := ⟨_, rfl⟩
            rw [← hF1] at hlaw ⊢
            have hFl : F1.length ≤ 48 := by rw [hF1]; have := tlF_len (ms.take i) ms ds; simp at this; omega
            refine awp_exit ?_
            refine x_thenE ?_
            refine x_thenE ?_
            refine x_blockE ?_
            refine x_then ?_
            refine awp_seq ?_
            refine awp_region ?_
            refine r_move rfl rfl ?_
            refine r_move rfl rfl ?_
            refine r_sliceLe ((ms.drop fr).map fun m => [AV.v (.int .u64 m)]) (by simp [List.map_drop]) rfl rfl rfl TF.sl22 TF.sz30 (by omega) (by simp; omega) rfl ?_
            refine r_move rfl rfl ?_
            refine r_call0 hq rfl rfl (.cons (.ev rfl rfl) (.cons (.ev rfl rfl) .nil)) (tlD_ok (ms.drop fr) (by simp; omega) ms ds (by omega) hok) rfl TF.en14 rfl (fun r hr => ?_)
            obtain rfl := hr
            rw [← hR]
            refine r_assign rfl rfl ?_
            refine awl_nil ?_
            refine x_then ?_
            refine awp_seq ?_
            refine awp_region ?_
            refine r_assign rfl rfl ?_
            refine awl_nil ?_
            refine x_then ?_
            refine awp_seq ?_
            refine awp_region ?_
            refine r_move rfl rfl ?_
            refine r_move rfl rfl ?_
            refine r_append 14 rfl (by first | exact .own _ | exact .nil) rfl (by first | exact .sl _ | exact .own _ _ | exact .nil) TF.sl28 TF.sz46 (by decide) TF.by46 TF.zlen46 (by simp [chunks] <;> omega) (by simp [chunks] <;> omega) rfl ?_
            refine r_assign rfl rfl ?_
            refine awl_nil ?_
            refine x_then ?_
            refine awp_seq ?_
            refine awp_seq ?_
            refine awp_region ?_
            refine r_assign rfl rfl ?_
            refine awl_nil ?_
            refine x_then ?_
            refine awp_block ?_
            refine awp_loop (fun nn0 S => ∃ j : Nat, S = ⟨109, [(0, .a (numsA ms)), (7, .a (.v (.int .i64 ((i : Int))))), (9, .a (evsA (tlF ms (atF ms ds)))), (13, .a (evsA R)), (14, .own 14 5 ((F1 ++ (R.take j).filter (keepE ms i)).map Ev.cs)), (15, .a (.v (.int .i64 ((j : Int)))))], []⟩ ∧ nn0 = R.length - j ∧ (j ≤ R.length)) (R.length - (0)) ⟨109, [(0, .a (numsA ms)), (7, .a (.v (.int .i64 ((i : Int))))), (9, .a (evsA (tlF ms (atF ms ds)))), (13, .a (evsA R)), (14, .own 14 5 ((F1 ++ (R.take (0)).filter (keepE ms i)).map Ev.cs)), (15, .a (.v (.int .i64 (((0) : Int)))))], []⟩ ⟨rfl, (Slots.cons rfl (by first | exact .refl _ | exact .nilOwn _ _ | exact .nilSl _ | exact .ownSl _ _ _  | exact SV.le.ownEq (by simp) | exact SV.le.of_eq (by simp)) (Slots.cons rfl (by first | exact .refl _ | exact .nilOwn _ _ | exact .nilSl _ | exact .ownSl _ _ _  | exact SV.le.ownEq (by simp) | exact SV.le.of_eq (by simp)) (Slots.cons rfl (by first | exact .refl _ | exact .nilOwn _ _ | exact .nilSl _ | exact .ownSl _ _ _  | exact SV.le.ownEq (by simp) | exact SV.le.of_eq (by simp)) (Slots.cons rfl (by first | exact .refl _ | exact .nilOwn _ _ | exact .nilSl _ | exact .ownSl _ _ _  | exact SV.le.ownEq (by simp) | exact SV.le.of_eq (by simp)) (Slots.cons rfl (by first | exact .refl _ | exact .nilOwn _ _ | exact .nilSl _ | exact .ownSl _ _ _  | exact SV.le.ownEq (by simp) | exact SV.le.of_eq (by simp)) (Slots.cons rfl (by first | exact .refl _ | exact .nilOwn _ _ | exact .nilSl _ | exact .ownSl _ _ _  | exact SV.le.ownEq (by simp) | exact SV.le.of_eq (by simp)) Slots.nil)))))), (by first | exact List.Sublist.refl _ | exact .cons_cons _ (.cons _ (.refl _)) | exact List.nil_sublist _ | exact .cons _ (.refl _) | exact .cons _ (.cons _ (.refl _)) | exact .cons _ (.cons _ (.cons _ (.refl _))) | exact .cons _ (.cons _ (.cons _ (.cons _ (.refl _)))) | exact .cons_cons _ (List.nil_sublist _))⟩ ⟨0, rfl, rfl, Nat.zero_le _⟩ ?_
            rintro nn0 _ ⟨j, rfl, rfl, hj⟩
            refine awp_seq ?_
            refine awp_seq ?_
            refine awp_region ?_
            refine r_move rfl rfl ?_
            refine r_move rfl rfl ?_
            first | (refine r_lenS rfl rfl TF.sl28 rfl ?_) | (refine r_lenNil rfl TF.sl28 rfl ?_) | (refine r_lenV rfl TF.sl28 rfl ?_)
            refine r_cmp rfl rfl rfl rfl ?_
            refine r_move rfl rfl ?_
            refine g_cases (t' := 77) rfl (fun hg77 => ?_) (fun hg77 => ?_)
            ·
              have hltx : j < R.length := by have := of_decide_eq_true hg77; simpa using this
              obtain ⟨x, hx⟩ := get_lt hltx
              refine g_run rfl rfl hg77 ?_
              refine r_move rfl rfl ?_
              refine g_run rfl rfl hg77 ?_
              refine r_cmp rfl rfl rfl rfl ?_
              refine r_pickT rfl hg77 rfl rfl ?_
              refine awl_nil ?_
              refine x_then ?_
              refine awp_cond rfl (fun hc4 => ?_) (fun hc4 => ?_)
              ·
                have hfl : ((R.take j).filter (keepE ms i)).length ≤ j := Nat.le_trans (List.length_filter_le _ _) (by simp; omega)
                refine awp_skip ?_
                refine x_then ?_
                refine awp_seq ?_
                refine awp_block ?_
                refine awp_seq ?_
                rcases Bool.eq_false_or_eq_true ((i : Int) == 0) with hg85 | hg85
                ·
                  have hk0 : (i == 0) = true := by simp at hg85 ⊢; omega
                  have hkp : keepE ms i x = true := by unfold keepE; rw [hk0]; rfl
                  refine awp_drawS [83, 84, 85, 86, 87, 88, 89, 90, 91, 92, 93, 94, 95] [_, _, _, _, _, _, _, _, _, _, _, _, _] [] [] TF.mixed rfl rfl rfl ⟨⟨⟨⟨⟨⟨⟨⟨⟨⟨⟨⟨⟨trivial
                    , ⟨_, rfl, fun sl hd hr ho => by
                        refine r_move (hr 7 _ rfl rfl rfl) rfl ?_
                        exact awl_nil ⟨rfl, post_put⟩⟩⟩
                    , ⟨_, rfl, fun sl hd hr ho => by
                        refine r_cmp (hd 0 _ rfl rfl rfl) rfl rfl rfl ?_
                        exact awl_nil ⟨rfl, post_put⟩⟩⟩
                    , ⟨_, rfl, fun sl hd hr ho => by
                        refine r_move (hd 1 _ rfl rfl rfl) rfl ?_
                        exact awl_nil ⟨rfl, post_put⟩⟩⟩
                    , ⟨_, rfl, fun sl hd hr ho => by
                        refine g_skip rfl (hd 2 _ rfl rfl rfl) hg85 rfl ?_
                        exact awl_nil ⟨rfl, post_put⟩⟩⟩
                    , ⟨_, rfl, fun sl hd hr ho => by
                        refine g_skip rfl (hd 2 _ rfl rfl rfl) hg85 rfl ?_
                        exact awl_nil ⟨rfl, post_put⟩⟩⟩
                    , ⟨_, rfl, fun sl hd hr ho => by
                        refine g_skip rfl (hd 2 _ rfl rfl rfl) hg85 rfl ?_
                        exact awl_nil ⟨rfl, post_put⟩⟩⟩
                    , ⟨_, rfl, fun sl hd hr ho => by
                        refine g_skip rfl (hd 2 _ rfl rfl rfl) hg85 rfl ?_
                        exact awl_nil ⟨rfl, post_put⟩⟩⟩
                    , ⟨_, rfl, fun sl hd hr ho => by
                        refine g_skip rfl (hd 2 _ rfl rfl rfl) hg85 rfl ?_
                        exact awl_nil ⟨rfl, post_put⟩⟩⟩
                    , ⟨_, rfl, fun sl hd hr ho => by
                        refine g_skip rfl (hd 2 _ rfl rfl rfl) hg85 rfl ?_
                        exact awl_nil ⟨rfl, post_put⟩⟩⟩
                    , ⟨_, rfl, fun sl hd hr ho => by
                        refine g_skip rfl (hd 2 _ rfl rfl rfl) hg85 rfl ?_
                        exact awl_nil ⟨rfl, post_put⟩⟩⟩
                    , ⟨_, rfl, fun sl hd hr ho => by
                        refine g_skip rfl (hd 2 _ rfl rfl rfl) hg85 rfl ?_
                        exact awl_nil ⟨rfl, post_put⟩⟩⟩
                    , ⟨_, rfl, fun sl hd hr ho => by
                        refine g_skip rfl (hd 2 _ rfl rfl rfl) hg85 rfl ?_
                        exact awl_nil ⟨rfl, post_put⟩⟩⟩
                    , ⟨_, rfl, fun sl hd hr ho => by
                        refine g_skip rfl (hd 2 _ rfl rfl rfl) hg85 rfl ?_
                        exact awl_nil ⟨rfl, post_put⟩⟩⟩
                    (by rfl) ?_
                  refine g_skip rfl rfl hg85 rfl ?_
                  refine r_pickT rfl hg85 rfl rfl ?_
                  refine awl_nil ?_
                  refine x_then ?_
                  refine awp_condT rfl ?_
                  refine awp_region ?_
                  refine r_move rfl rfl ?_
                  refine r_move rfl rfl ?_
                  refine r_move rfl rfl ?_
                  refine r_index rfl rfl rfl TF.sl28 TF.sz46 (by omega) (get_map hx) rfl ?_
                  refine r_loadA rfl TF.agg46 TF.sz46 rfl rfl ?_
                  refine r_lit 103 (parts := [(0, .tmp 102)]) rfl TF.sl28 TF.sz46 TF.zraw46 rfl rfl rfl rfl rfl rfl rfl ?_
                  refine r_append 14 rfl (by first | exact .own _ | exact .nil) rfl (by first | exact .sl _ | exact .own _ _ | exact .nil) TF.sl28 TF.sz46 (by decide) TF.by46 TF.zlen46 (by simp [chunks] <;> omega) (by simp [chunks] <;> omega) rfl ?_
                  refine r_assign rfl rfl ?_
                  refine awl_nil ?_
                  refine x_block ?_
                  refine x_then ?_
                  refine awp_region ?_
                  refine r_move rfl rfl ?_
                  refine r_ari _ rfl rfl rfl (wrap_id (by first | omega | (simp; omega))) rfl ?_
                  refine r_assign rfl rfl ?_
                  refine awl_nil ?_
                  refine x_then ?_
                  refine ⟨R.length - (j + 1), ⟨109, [(0, .a (numsA ms)), (7, .a (.v (.int .i64 ((i : Int))))), (9, .a (evsA (tlF ms (atF ms ds)))), (13, .a (evsA R)), (14, .own 14 5 ((F1 ++ (R.take (j + 1)).filter (keepE ms i)).map Ev.cs)), (15, .a (.v (.int .i64 (((j + 1) : Int)))))], []⟩, ⟨rfl, (Slots.cons rfl (by first | exact .refl _ | exact .nilOwn _ _ | exact .nilSl _ | exact .ownSl _ _ _  | exact SV.le.ownEq (by first | rfl | (rw [filtS_take hx, hkp, if_pos rfl, ← List.append_assoc, List.map_append (l₁ := F1 ++ (R.take j).filter (keepE ms i))]; rfl) | (rw [filtS_take hx, hkp, if_neg (by decide), List.append_nil])) | exact SV.le.of_eq (by first | rfl | (rw [filtS_take hx, hkp, if_pos rfl, ← List.append_assoc, List.map_append (l₁ := F1 ++ (R.take j).filter (keepE ms i))]; rfl) | (rw [filtS_take hx, hkp, if_neg (by decide), List.append_nil]))) (Slots.cons rfl (by first | exact .refl _ | exact .nilOwn _ _ | exact .nilSl _ | exact .ownSl _ _ _  | exact SV.le.ownEq (by first | rfl | (rw [filtS_take hx, hkp, if_pos rfl, ← List.append_assoc, List.map_append (l₁ := F1 ++ (R.take j).filter (keepE ms i))]; rfl) | (rw [filtS_take hx, hkp, if_neg (by decide), List.append_nil])) | exact SV.le.of_eq (by first | rfl | (rw [filtS_take hx, hkp, if_pos rfl, ← List.append_assoc, List.map_append (l₁ := F1 ++ (R.take j).filter (keepE ms i))]; rfl) | (rw [filtS_take hx, hkp, if_neg (by decide), List.append_nil]))) (Slots.cons rfl (by first | exact .refl _ | exact .nilOwn _ _ | exact .nilSl _ | exact .ownSl _ _ _  | exact SV.le.ownEq (by first | rfl | (rw [filtS_take hx, hkp, if_pos rfl, ← List.append_assoc, List.map_append (l₁ := F1 ++ (R.take j).filter (keepE ms i))]; rfl) | (rw [filtS_take hx, hkp, if_neg (by decide), List.append_nil])) | exact SV.le.of_eq (by first | rfl | (rw [filtS_take hx, hkp, if_pos rfl, ← List.append_assoc, List.map_append (l₁ := F1 ++ (R.take j).filter (keepE ms i))]; rfl) | (rw [filtS_take hx, hkp, if_neg (by decide), List.append_nil]))) (Slots.cons rfl (by first | exact .refl _ | exact .nilOwn _ _ | exact .nilSl _ | exact .ownSl _ _ _  | exact SV.le.ownEq (by first | rfl | (rw [filtS_take hx, hkp, if_pos rfl, ← List.append_assoc, List.map_append (l₁ := F1 ++ (R.take j).filter (keepE ms i))]; rfl) | (rw [filtS_take hx, hkp, if_neg (by decide), List.append_nil])) | exact SV.le.of_eq (by first | rfl | (rw [filtS_take hx, hkp, if_pos rfl, ← List.append_assoc, List.map_append (l₁ := F1 ++ (R.take j).filter (keepE ms i))]; rfl) | (rw [filtS_take hx, hkp, if_neg (by decide), List.append_nil]))) (Slots.cons rfl (by first | exact .refl _ | exact .nilOwn _ _ | exact .nilSl _ | exact .ownSl _ _ _  | exact SV.le.ownEq (by first | rfl | (rw [filtS_take hx, hkp, if_pos rfl, ← List.append_assoc, List.map_append (l₁ := F1 ++ (R.take j).filter (keepE ms i))]; rfl) | (rw [filtS_take hx, hkp, if_neg (by decide), List.append_nil])) | exact SV.le.of_eq (by first | rfl | (rw [filtS_take hx, hkp, if_pos rfl, ← List.append_assoc, List.map_append (l₁ := F1 ++ (R.take j).filter (keepE ms i))]; rfl) | (rw [filtS_take hx, hkp, if_neg (by decide), List.append_nil]))) (Slots.cons rfl (by first | exact .refl _ | exact .nilOwn _ _ | exact .nilSl _ | exact .ownSl _ _ _  | exact SV.le.ownEq (by first | rfl | (rw [filtS_take hx, hkp, if_pos rfl, ← List.append_assoc, List.map_append (l₁ := F1 ++ (R.take j).filter (keepE ms i))]; rfl) | (rw [filtS_take hx, hkp, if_neg (by decide), List.append_nil])) | exact SV.le.of_eq (by first | rfl | (rw [filtS_take hx, hkp, if_pos rfl, ← List.append_assoc, List.map_append (l₁ := F1 ++ (R.take j).filter (keepE ms i))]; rfl) | (rw [filtS_take hx, hkp, if_neg (by decide), List.append_nil]))) Slots.nil)))))), (by first | exact List.Sublist.refl _ | exact .cons_cons _ (.cons _ (.refl _)) | exact List.nil_sublist _ | exact .cons _ (.refl _) | exact .cons _ (.cons _ (.refl _)) | exact .cons _ (.cons _ (.cons _ (.refl _))) | exact .cons _ (.cons _ (.cons _ (.cons _ (.refl _)))) | exact .cons_cons _ (List.nil_sublist _))⟩, (by omega), ⟨j + 1, rfl, rfl, (by omega)⟩⟩
                ·
                  have hk0 : (i == 0) = false := by simp at hg85 ⊢; omega
                  have hi0 : 0 < i := by simp at hk0; omega
                  obtain ⟨p, hpp⟩ := get_lt (show i - 1 < ms.length by omega)
                  refine awp_drawS [83, 84, 85, 86, 87, 88, 89, 90, 91, 92, 93, 94, 95] [_, _, _, _, _, _, _, _, _, _, _, _, _] [] [] TF.mixed rfl rfl rfl ⟨⟨⟨⟨⟨⟨⟨⟨⟨⟨⟨⟨⟨trivial
                    , ⟨_, rfl, fun sl hd hr ho => by
                        refine r_move (hr 7 _ rfl rfl rfl) rfl ?_
                        exact awl_nil ⟨rfl, post_put⟩⟩⟩
                    , ⟨_, rfl, fun sl hd hr ho => by
                        refine r_cmp (hd 0 _ rfl rfl rfl) rfl rfl rfl ?_
                        exact awl_nil ⟨rfl, post_put⟩⟩⟩
                    , ⟨_, rfl, fun sl hd hr ho => by
                        refine r_move (hd 1 _ rfl rfl rfl) rfl ?_
                        exact awl_nil ⟨rfl, post_put⟩⟩⟩
                    , ⟨_, rfl, fun sl hd hr ho => by
                        refine g_run rfl (hd 2 _ rfl rfl rfl) hg85 ?_
                        refine r_move (hr 13 _ rfl rfl rfl) rfl ?_
                        exact awl_nil ⟨rfl, post_put⟩⟩⟩
                    , ⟨_, rfl, fun sl hd hr ho => by
                        refine g_run rfl (hd 2 _ rfl rfl rfl) hg85 ?_
                        refine r_move (hr 15 _ rfl rfl rfl) rfl ?_
                        exact awl_nil ⟨rfl, post_put⟩⟩⟩
                    , ⟨_, rfl, fun sl hd hr ho => by
                        refine g_run rfl (hd 2 _ rfl rfl rfl) hg85 ?_
                        refine r_index (hd 3 _ rfl rfl rfl) rfl (hd 4 _ rfl rfl rfl) TF.sl28 TF.sz46 (by omega) (get_map hx) rfl ?_
                        exact awl_nil ⟨rfl, post_put⟩⟩⟩
                    , ⟨_, rfl, fun sl hd hr ho => by
                        refine g_run rfl (hd 2 _ rfl rfl rfl) hg85 ?_
                        first | (refine r_fieldb (hd 5 _ rfl rfl rfl) TF.f46_0 TF.sz30 rfl ?_) | (refine r_fieldcp (hd 5 _ rfl rfl rfl) TF.f46_0 TF.sz30 rfl ?_)
                        exact awl_nil ⟨rfl, post_put⟩⟩⟩
                    , ⟨_, rfl, fun sl hd hr ho => by
                        refine g_run rfl (hd 2 _ rfl rfl rfl) hg85 ?_
                        refine r_load1 (hd 6 _ rfl rfl rfl) TF.agg30 rfl ?_
                        exact awl_nil ⟨rfl, post_put⟩⟩⟩
                    , ⟨_, rfl, fun sl hd hr ho => by
                        refine g_run rfl (hd 2 _ rfl rfl rfl) hg85 ?_
                        refine r_move (hr 0 _ rfl rfl rfl) rfl ?_
                        exact awl_nil ⟨rfl, post_put⟩⟩⟩
                    , ⟨_, rfl, fun sl hd hr ho => by
                        refine g_run rfl (hd 2 _ rfl rfl rfl) hg85 ?_
                        refine r_move (hr 7 _ rfl rfl rfl) rfl ?_
                        exact awl_nil ⟨rfl, post_put⟩⟩⟩
                    , ⟨_, rfl, fun sl hd hr ho => by
                        refine g_run rfl (hd 2 _ rfl rfl rfl) hg85 ?_
                        refine r_ari _ (hd 9 _ rfl rfl rfl) rfl rfl (wrap_id (by first | omega | (simp; omega))) rfl ?_
                        exact awl_nil ⟨rfl, post_put⟩⟩⟩
                    , ⟨_, rfl, fun sl hd hr ho => by
                        refine g_run rfl (hd 2 _ rfl rfl rfl) hg85 ?_
                        refine r_index (hd 8 _ rfl rfl rfl) rfl (hd 10 _ rfl rfl rfl) TF.sl22 TF.sz30 (by omega) (by rw [show ((i : Int) - 1).toNat = i - 1 by omega]; exact get_map hpp) rfl ?_
                        exact awl_nil ⟨rfl, post_put⟩⟩⟩
                    , ⟨_, rfl, fun sl hd hr ho => by
                        refine g_run rfl (hd 2 _ rfl rfl rfl) hg85 ?_
                        refine r_load1 (hd 11 _ rfl rfl rfl) TF.agg30 rfl ?_
                        exact awl_nil ⟨rfl, post_put⟩⟩⟩
                    (by rfl) ?_
                  refine g_run rfl rfl hg85 ?_
                  refine r_cmp rfl rfl rfl rfl ?_
                  refine r_pickF rfl hg85 rfl rfl ?_
                  refine awl_nil ?_
                  refine x_then ?_
                  refine awp_cond rfl (fun hc5 => ?_) (fun hc5 => ?_)
                  ·
                    have hkp : keepE ms i x = true := by unfold keepE; rw [hk0, hpp, Bool.false_or]; exact hc5
                    refine awp_region ?_
                    refine r_move rfl rfl ?_
                    refine r_move rfl rfl ?_
                    refine r_move rfl rfl ?_
                    refine r_index rfl rfl rfl TF.sl28 TF.sz46 (by omega) (get_map hx) rfl ?_
                    refine r_loadA rfl TF.agg46 TF.sz46 rfl rfl ?_
                    refine r_lit 103 (parts := [(0, .tmp 102)]) rfl TF.sl28 TF.sz46 TF.zraw46 rfl rfl rfl rfl rfl rfl rfl ?_
                    refine r_append 14 rfl (by first | exact .own _ | exact .nil) rfl (by first | exact .sl _ | exact .own _ _ | exact .nil) TF.sl28 TF.sz46 (by decide) TF.by46 TF.zlen46 (by simp [chunks] <;> omega) (by simp [chunks] <;> omega) rfl ?_
                    refine r_assign rfl rfl ?_
                    refine awl_nil ?_
                    refine x_block ?_
                    refine x_then ?_
                    refine awp_region ?_
                    refine r_move rfl rfl ?_
                    refine r_ari _ rfl rfl rfl (wrap_id (by first | omega | (simp; omega))) rfl ?_
                    refine r_assign rfl rfl ?_
                    refine awl_nil ?_
                    refine x_then ?_
                    refine ⟨R.length - (j + 1), ⟨109, [(0, .a (numsA ms)), (7, .a (.v (.int .i64 ((i : Int))))), (9, .a (evsA (tlF ms (atF ms ds)))), (13, .a (evsA R)), (14, .own 14 5 ((F1 ++ (R.take (j + 1)).filter (keepE ms i)).map Ev.cs)), (15, .a (.v (.int .i64 (((j + 1) : Int)))))], []⟩, ⟨rfl, (Slots.cons rfl (by first | exact .refl _ | exact .nilOwn _ _ | exact .nilSl _ | exact .ownSl _ _ _  | exact SV.le.ownEq (by first | rfl | (rw [filtS_take hx, hkp, if_pos rfl, ← List.append_assoc, List.map_append (l₁ := F1 ++ (R.take j).filter (keepE ms i))]; rfl) | (rw [filtS_take hx, hkp, if_neg (by decide), List.append_nil])) | exact SV.le.of_eq (by first | rfl | (rw [filtS_take hx, hkp, if_pos rfl, ← List.append_assoc, List.map_append (l₁ := F1 ++ (R.take j).filter (keepE ms i))]; rfl) | (rw [filtS_take hx, hkp, if_neg (by decide), List.append_nil]))) (Slots.cons rfl (by first | exact .refl _ | exact .nilOwn _ _ | exact .nilSl _ | exact .ownSl _ _ _  | exact SV.le.ownEq (by first | rfl | (rw [filtS_take hx, hkp, if_pos rfl, ← List.append_assoc, List.map_append (l₁ := F1 ++ (R.take j).filter (keepE ms i))]; rfl) | (rw [filtS_take hx, hkp, if_neg (by decide), List.append_nil])) | exact SV.le.of_eq (by first | rfl | (rw [filtS_take hx, hkp, if_pos rfl, ← List.append_assoc, List.map_append (l₁ := F1 ++ (R.take j).filter (keepE ms i))]; rfl) | (rw [filtS_take hx, hkp, if_neg (by decide), List.append_nil]))) (Slots.cons rfl (by first | exact .refl _ | exact .nilOwn _ _ | exact .nilSl _ | exact .ownSl _ _ _  | exact SV.le.ownEq (by first | rfl | (rw [filtS_take hx, hkp, if_pos rfl, ← List.append_assoc, List.map_append (l₁ := F1 ++ (R.take j).filter (keepE ms i))]; rfl) | (rw [filtS_take hx, hkp, if_neg (by decide), List.append_nil])) | exact SV.le.of_eq (by first | rfl | (rw [filtS_take hx, hkp, if_pos rfl, ← List.append_assoc, List.map_append (l₁ := F1 ++ (R.take j).filter (keepE ms i))]; rfl) | (rw [filtS_take hx, hkp, if_neg (by decide), List.append_nil]))) (Slots.cons rfl (by first | exact .refl _ | exact .nilOwn _ _ | exact .nilSl _ | exact .ownSl _ _ _  | exact SV.le.ownEq (by first | rfl | (rw [filtS_take hx, hkp, if_pos rfl, ← List.append_assoc, List.map_append (l₁ := F1 ++ (R.take j).filter (keepE ms i))]; rfl) | (rw [filtS_take hx, hkp, if_neg (by decide), List.append_nil])) | exact SV.le.of_eq (by first | rfl | (rw [filtS_take hx, hkp, if_pos rfl, ← List.append_assoc, List.map_append (l₁ := F1 ++ (R.take j).filter (keepE ms i))]; rfl) | (rw [filtS_take hx, hkp, if_neg (by decide), List.append_nil]))) (Slots.cons rfl (by first | exact .refl _ | exact .nilOwn _ _ | exact .nilSl _ | exact .ownSl _ _ _  | exact SV.le.ownEq (by first | rfl | (rw [filtS_take hx, hkp, if_pos rfl, ← List.append_assoc, List.map_append (l₁ := F1 ++ (R.take j).filter (keepE ms i))]; rfl) | (rw [filtS_take hx, hkp, if_neg (by decide), List.append_nil])) | exact SV.le.of_eq (by first | rfl | (rw [filtS_take hx, hkp, if_pos rfl, ← List.append_assoc, List.map_append (l₁ := F1 ++ (R.take j).filter (keepE ms i))]; rfl) | (rw [filtS_take hx, hkp, if_neg (by decide), List.append_nil]))) (Slots.cons rfl (by first | exact .refl _ | exact .nilOwn _ _ | exact .nilSl _ | exact .ownSl _ _ _  | exact SV.le.ownEq (by first | rfl | (rw [filtS_take hx, hkp, if_pos rfl, ← List.append_assoc, List.map_append (l₁ := F1 ++ (R.take j).filter (keepE ms i))]; rfl) | (rw [filtS_take hx, hkp, if_neg (by decide), List.append_nil])) | exact SV.le.of_eq (by first | rfl | (rw [filtS_take hx, hkp, if_pos rfl, ← List.append_assoc, List.map_append (l₁ := F1 ++ (R.take j).filter (keepE ms i))]; rfl) | (rw [filtS_take hx, hkp, if_neg (by decide), List.append_nil]))) Slots.nil)))))), (by first | exact List.Sublist.refl _ | exact .cons_cons _ (.cons _ (.refl _)) | exact List.nil_sublist _ | exact .cons _ (.refl _) | exact .cons _ (.cons _ (.refl _)) | exact .cons _ (.cons _ (.cons _ (.refl _))) | exact .cons _ (.cons _ (.cons _ (.cons _ (.refl _)))) | exact .cons_cons _ (List.nil_sublist _))⟩, (by omega), ⟨j + 1, rfl, rfl, (by omega)⟩⟩
                  ·
                    have hkp : keepE ms i x = false := by unfold keepE; rw [hk0, hpp, Bool.false_or]; exact hc5
                    refine awp_skip ?_
                    refine x_block ?_
                    refine x_then ?_
                    refine awp_region ?_
                    refine r_move rfl rfl ?_
                    refine r_ari _ rfl rfl rfl (wrap_id (by first | omega | (simp; omega))) rfl ?_
                    refine r_assign rfl rfl ?_
                    refine awl_nil ?_
                    refine x_then ?_
                    refine ⟨R.length - (j + 1), ⟨109, [(0, .a (numsA ms)), (7, .a (.v (.int .i64 ((i : Int))))), (9, .a (evsA (tlF ms (atF ms ds)))), (13, .a (evsA R)), (14, .own 14 5 ((F1 ++ (R.take (j + 1)).filter (keepE ms i)).map Ev.cs)), (15, .a (.v (.int .i64 (((j + 1) : Int)))))], []⟩, ⟨rfl, (Slots.cons rfl (by first | exact .refl _ | exact .nilOwn _ _ | exact .nilSl _ | exact .ownSl _ _ _  | exact SV.le.ownEq (by first | rfl | (rw [filtS_take hx, hkp, if_pos rfl, ← List.append_assoc, List.map_append (l₁ := F1 ++ (R.take j).filter (keepE ms i))]; rfl) | (rw [filtS_take hx, hkp, if_neg (by decide), List.append_nil])) | exact SV.le.of_eq (by first | rfl | (rw [filtS_take hx, hkp, if_pos rfl, ← List.append_assoc, List.map_append (l₁ := F1 ++ (R.take j).filter (keepE ms i))]; rfl) | (rw [filtS_take hx, hkp, if_neg (by decide), List.append_nil]))) (Slots.cons rfl (by first | exact .refl _ | exact .nilOwn _ _ | exact .nilSl _ | exact .ownSl _ _ _  | exact SV.le.ownEq (by first | rfl | (rw [filtS_take hx, hkp, if_pos rfl, ← List.append_assoc, List.map_append (l₁ := F1 ++ (R.take j).filter (keepE ms i))]; rfl) | (rw [filtS_take hx, hkp, if_neg (by decide), List.append_nil])) | exact SV.le.of_eq (by first | rfl | (rw [filtS_take hx, hkp, if_pos rfl, ← List.append_assoc, List.map_append (l₁ := F1 ++ (R.take j).filter (keepE ms i))]; rfl) | (rw [filtS_take hx, hkp, if_neg (by decide), List.append_nil]))) (Slots.cons rfl (by first | exact .refl _ | exact .nilOwn _ _ | exact .nilSl _ | exact .ownSl _ _ _  | exact SV.le.ownEq (by first | rfl | (rw [filtS_take hx, hkp, if_pos rfl, ← List.append_assoc, List.map_append (l₁ := F1 ++ (R.take j).filter (keepE ms i))]; rfl) | (rw [filtS_take hx, hkp, if_neg (by decide), List.append_nil])) | exact SV.le.of_eq (by first | rfl | (rw [filtS_take hx, hkp, if_pos rfl, ← List.append_assoc, List.map_append (l₁ := F1 ++ (R.take j).filter (keepE ms i))]; rfl) | (rw [filtS_take hx, hkp, if_neg (by decide), List.append_nil]))) (Slots.cons rfl (by first | exact .refl _ | exact .nilOwn _ _ | exact .nilSl _ | exact .ownSl _ _ _  | exact SV.le.ownEq (by first | rfl | (rw [filtS_take hx, hkp, if_pos rfl, ← List.append_assoc, List.map_append (l₁ := F1 ++ (R.take j).filter (keepE ms i))]; rfl) | (rw [filtS_take hx, hkp, if_neg (by decide), List.append_nil])) | exact SV.le.of_eq (by first | rfl | (rw [filtS_take hx, hkp, if_pos rfl, ← List.append_assoc, List.map_append (l₁ := F1 ++ (R.take j).filter (keepE ms i))]; rfl) | (rw [filtS_take hx, hkp, if_neg (by decide), List.append_nil]))) (Slots.cons rfl (by first | exact .refl _ | exact .nilOwn _ _ | exact .nilSl _ | exact .ownSl _ _ _  | exact SV.le.ownEq (by first | rfl | (rw [filtS_take hx, hkp, if_pos rfl, ← List.append_assoc, List.map_append (l₁ := F1 ++ (R.take j).filter (keepE ms i))]; rfl) | (rw [filtS_take hx, hkp, if_neg (by decide), List.append_nil])) | exact SV.le.of_eq (by first | rfl | (rw [filtS_take hx, hkp, if_pos rfl, ← List.append_assoc, List.map_append (l₁ := F1 ++ (R.take j).filter (keepE ms i))]; rfl) | (rw [filtS_take hx, hkp, if_neg (by decide), List.append_nil]))) (Slots.cons rfl (by first | exact .refl _ | exact .nilOwn _ _ | exact .nilSl _ | exact .ownSl _ _ _  | exact SV.le.ownEq (by first | rfl | (rw [filtS_take hx, hkp, if_pos rfl, ← List.append_assoc, List.map_append (l₁ := F1 ++ (R.take j).filter (keepE ms i))]; rfl) | (rw [filtS_take hx, hkp, if_neg (by decide), List.append_nil])) | exact SV.le.of_eq (by first | rfl | (rw [filtS_take hx, hkp, if_pos rfl, ← List.append_assoc, List.map_append (l₁ := F1 ++ (R.take j).filter (keepE ms i))]; rfl) | (rw [filtS_take hx, hkp, if_neg (by decide), List.append_nil]))) Slots.nil)))))), (by first | exact List.Sublist.refl _ | exact .cons_cons _ (.cons _ (.refl _)) | exact List.nil_sublist _ | exact .cons _ (.refl _) | exact .cons _ (.cons _ (.refl _)) | exact .cons _ (.cons _ (.cons _ (.refl _))) | exact .cons _ (.cons _ (.cons _ (.cons _ (.refl _)))) | exact .cons_cons _ (List.nil_sublist _))⟩, (by omega), ⟨j + 1, rfl, rfl, (by omega)⟩⟩
              ·
                have hge2 : R.length ≤ j := by first | exact hge | (have := of_decide_eq_false hc4; omega)
                have hkt : R.take j = R := List.take_of_length_le hge2
                rw [hkt, ← hlaw]
                refine awp_exit ?_
                refine x_thenE ?_
                refine x_thenE ?_
                refine x_blockE ?_
                refine x_then ?_
                refine awp_seq ?_
                refine awp_region ?_
                refine r_move rfl rfl ?_
                refine r_move rfl rfl ?_
                refine r_call0 hq rfl rfl (.cons (.ev rfl rfl) (.cons (.ev rfl rfl) .nil)) (same_ok (tlF ms (atF ms ds)) (by have := tlF_len ms ms ds; omega)) rfl TF.en19 rfl (fun r hr => ?_)
                obtain rfl := hr
                refine r_cmp rfl rfl rfl rfl ?_
                refine r_assign rfl rfl ?_
                refine awl_nil ?_
                refine x_then ?_
                refine awp_ret ?_
                exact ⟨(.inl rfl), _, [], (.one (by first | exact .mk rfl rfl | exact .nil rfl)), ⟨rfl, rfl⟩, (List.nil_sublist _), (by simp)⟩
            ·
              have hge : R.length ≤ j := by have := of_decide_eq_false hg77; simp at this; omega
              refine g_skip rfl rfl hg77 rfl ?_
              refine g_skip rfl rfl hg77 rfl ?_
              refine r_pickF rfl hg77 rfl rfl ?_
              refine awl_nil ?_
              refine x_then ?_
              refine awp_condF rfl ?_
              have hge2 : R.length ≤ j := by first | exact hge | (have := of_decide_eq_false hc4; omega)
              have hkt : R.take j = R := List.take_of_length_le hge2
              rw [hkt, ← hlaw]
              refine awp_exit ?_
              refine x_thenE ?_
              refine x_thenE ?_
              refine x_blockE ?_
              refine x_then ?_
              refine awp_seq ?_
              refine awp_region ?_
              refine r_move rfl rfl ?_
              refine r_move rfl rfl ?_
              refine r_call0 hq rfl rfl (.cons (.ev rfl rfl) (.cons (.ev rfl rfl) .nil)) (same_ok (tlF ms (atF ms ds)) (by have := tlF_len ms ms ds; omega)) rfl TF.en19 rfl (fun r hr => ?_)
              obtain rfl := hr
              refine r_cmp rfl rfl rfl rfl ?_
              refine r_assign rfl rfl ?_
              refine awl_nil ?_
              refine x_then ?_
              refine awp_ret ?_
              exact ⟨(.inl rfl), _, [], (.one (by first | exact .mk rfl rfl | exact .nil rfl)), ⟨rfl, rfl⟩, (List.nil_sublist _), (by simp)⟩

theorem u8_of {x : Int} (h : (Lit.int .u8 x).wf = true) : ∃ n : Nat, x = (n : Int) ∧ n < 256 := by
  simp [Lit.wf, IntKind.min, IntKind.max, IntKind.bits, IntKind.signed] at h
  exact ⟨x.toNat, by omega, by omega⟩
theorem parts_law2 (ms : List Int) (ds : List Disk) (hok : ∀ d ∈ ds, OkD d) (x : Int) (h : (Lit.int .u8 x).wf = true) : AC Try.prog 4 [numsA ms, disksA ds, .v (.int .u8 x)] [] (fun r n => n = [] ∧ r = boolA true) := by
  obtain ⟨n, rfl, hn⟩ := u8_of h; exact parts_walk ms ds hok n hn

end Go.Proofs.Ytmbfmnhcahhciaa.A

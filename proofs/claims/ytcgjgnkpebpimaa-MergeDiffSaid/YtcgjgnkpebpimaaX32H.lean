/- Layer 32: the statements' walks. -/
import Derived.Test.YtcgjgnkpebpimaaProg
import Derived.KernelRfl
import Derived.Test.YtcgjgnkpebpimaaX32T
namespace Go.Proofs.Ytcgjgnkpebpimaa.A
open Go Go.RowKit
set_option linter.unusedVariables false
set_option linter.unusedSimpArgs false
set_option maxRecDepth 100000

theorem T.en11 : entersT Try.prog 11 := enters_of Try.func11 (by kernel_rfl) (by kernel_rfl)
theorem T.en12 : entersT Try.prog 12 := enters_of Try.func12 (by kernel_rfl) (by kernel_rfl)
theorem T.en14 : entersT Try.prog 14 := enters_of Try.func14 (by kernel_rfl) (by kernel_rfl)
theorem T.en15 : entersT Try.prog 15 := enters_of Try.func15 (by kernel_rfl) (by kernel_rfl)
theorem T.mix35 : MixT Try.prog 35 [.i64, .i64, .u64] := ⟨by kernel_rfl, by kernel_rfl, by kernel_rfl, by kernel_rfl⟩
theorem T.f38_0 : fieldT Try.prog 38 0 = some (0, 3) := by kernel_rfl
theorem T.f38_1 : fieldT Try.prog 38 1 = some (1, 3) := by kernel_rfl
theorem T.f38_2 : fieldT Try.prog 38 2 = some (2, 23) := by kernel_rfl
theorem T.f38_3 : fieldT Try.prog 38 3 = some (3, 23) := by kernel_rfl
theorem T.f38_4 : fieldT Try.prog 38 4 = some (4, 23) := by kernel_rfl
theorem T.en17 : entersT Try.prog 17 := enters_of Try.func17 (by kernel_rfl) (by kernel_rfl)
theorem T.un4 : Try.prog.underlying 4 = some .bool := by kernel_rfl

theorem three_law (base ours theirs : List Ent) (table : Int) (hgb : Good base) (hgo : Good ours) (hgt : Good theirs) : AC Try.prog 3 [entsA base, entsA ours, entsA theirs, numA table] [] (fun r n => n = [] ∧ r = bA true) := by
  refine ac_of_awp (rs := [8]) (nt := 104) Try.func3 rfl rfl rfl rfl (fun w0 C0 hq => ?_)
  refine awp_seq ?_
  refine awp_region ?_
  refine r_assign rfl rfl ?_
  refine awl_nil ?_
  refine x_then ?_
  refine awp_seq ?_
  refine awp_seq ?_
  refine awp_region ?_
  refine r_call0 hq rfl rfl .nil (awake_ok) rfl T.en11 rfl (fun r hr => ?_)
  obtain rfl := hr
  refine r_not rfl rfl ?_
  refine awl_nil ?_
  refine x_then ?_
  refine awp_cond rfl (fun hc0 => ?_) (fun hc0 => ?_)
  ·
    exfalso; exact absurd hc0 (by decide)
  ·
    refine awp_skip ?_
    refine x_then ?_
    refine awp_seq ?_
    refine awp_seq ?_
    refine awp_region ?_
    refine r_move rfl rfl ?_
    refine r_move rfl rfl ?_
    refine r_move rfl rfl ?_
    refine r_lit 20 (parts := [(0, .tmp 17), (1, .tmp 18), (2, .tmp 19)]) rfl T.sl44 T.sz22 T.zraw22 rfl rfl rfl rfl rfl rfl rfl ?_
    refine r_call0 hq rfl rfl (.cons (.ev rfl rfl) .nil) (great_ok [base, ours, theirs] (by simp)) rfl T.en12 rfl (fun r hr => ?_)
    rcases hr with rfl | ⟨rfl, hle⟩
    
    ·
      refine r_cmp rfl rfl rfl rfl ?_
      refine awl_nil ?_
      refine x_then ?_
      refine awp_condT rfl ?_
      refine awp_seq ?_
      refine awp_region ?_
      refine r_assign rfl rfl ?_
      refine awl_nil ?_
      refine x_then ?_
      refine awp_ret ?_
      refine x_thenR ?_
      exact ⟨(.inl rfl), _, [], (.one (by first | exact .mk rfl rfl | exact .nil rfl)), ⟨rfl, rfl⟩, (List.nil_sublist _), (by simp)⟩
    ·
      have hlbase : base.length ≤ 20 := hle base (by simp)
      have hlours : ours.length ≤ 20 := hle ours (by simp)
      have hltheirs : theirs.length ≤ 20 := hle theirs (by simp)
      refine r_cmp rfl rfl rfl rfl ?_
      refine awl_nil ?_
      refine x_then ?_
      refine awp_condF rfl ?_
      refine awp_skip ?_
      refine x_then ?_
      refine awp_seq ?_
      refine awp_region ?_
      refine r_move rfl rfl ?_
      refine r_move rfl rfl ?_
      refine r_move rfl rfl ?_
      refine r_move rfl rfl ?_
      refine r_call0 hq rfl rfl (.cons (.ev rfl rfl) .nil) (by_ok table) rfl T.en14 rfl (fun r hr => ?_)
      obtain rfl := hr
      refine r_call0 hq rfl rfl (.cons (.ev rfl rfl) (.cons (.ev rfl rfl) (.cons (.ev rfl rfl) (.cons (.ev rfl rfl) .nil)))) (three_ok (told_by table) base ours theirs (by omega) (by omega) (by omega) hgb hgo hgt) rfl T.en13 rfl (fun r hr => ?_)
      obtain rfl := hr
      refine r_move rfl rfl ?_
      refine r_extract rfl rfl rfl ?_
      refine r_extract rfl rfl rfl ?_
      refine r_assign rfl rfl ?_
      refine r_assign rfl rfl ?_
      refine awl_nil ?_
      refine x_then ?_
      refine awp_seq ?_
      refine awp_region ?_
      refine r_move rfl rfl ?_
      refine r_move rfl rfl ?_
      refine r_move rfl rfl ?_
      refine r_move rfl rfl ?_
      refine r_call0 hq rfl rfl (.cons (.ev rfl rfl) (.cons (.ev rfl rfl) (.cons (.ev rfl rfl) (.cons (.ev rfl rfl) .nil)))) (rthree_ok base ours theirs table (by omega) (by omega) (by omega) hgb hgo hgt) rfl T.en15 rfl (fun r hr => ?_)
      obtain rfl := hr
      refine r_move rfl rfl ?_
      refine r_extract rfl rfl rfl ?_
      refine r_extract rfl rfl rfl ?_
      refine r_assign rfl rfl ?_
      refine r_assign rfl rfl ?_
      refine awl_nil ?_
      refine x_then ?_
      refine awp_seq ?_
      refine awp_seq ?_
      refine awp_region ?_
      refine r_move rfl rfl ?_
      first | (refine r_lenS rfl rfl T.sl22 rfl ?_) | (refine r_lenNil rfl T.sl22 rfl ?_)
      refine r_move rfl rfl ?_
      first | (refine r_lenS rfl rfl T.sl22 rfl ?_) | (refine r_lenNil rfl T.sl22 rfl ?_)
      refine r_cmp rfl rfl rfl rfl ?_
      refine r_move rfl rfl ?_
      refine g_run rfl rfl (by simp) ?_
      refine r_move rfl rfl ?_
      refine g_run rfl rfl (by simp) ?_
      first | (refine r_lenS rfl rfl T.sl26 rfl ?_) | (refine r_lenNil rfl T.sl26 rfl ?_)
      refine g_run rfl rfl (by simp) ?_
      refine r_move rfl rfl ?_
      refine g_run rfl rfl (by simp) ?_
      first | (refine r_lenS rfl rfl T.sl31 rfl ?_) | (refine r_lenNil rfl T.sl31 rfl ?_)
      refine g_run rfl rfl (by simp) ?_
      refine r_cmp rfl rfl rfl rfl ?_
      refine r_pickF rfl (by simp) rfl rfl ?_
      refine awl_nil ?_
      refine x_then ?_
      refine awp_cond rfl (fun hc2 => ?_) (fun hc2 => ?_)
      ·
        exfalso; simp at hc2
      ·
        refine awp_skip ?_
        refine x_then ?_
        refine awp_seq ?_
        refine awp_seq ?_
        refine awp_region ?_
        refine r_assign rfl rfl ?_
        refine awl_nil ?_
        refine x_then ?_
        refine awp_block ?_
        have htl := take_clash_sum (toldF table) base ours theirs
        generalize takeF (toldF table) base ours theirs = ts at htl ⊢
        generalize clashF (toldF table) base ours theirs = cs at htl ⊢
        refine awp_loop (fun nn0 S => ∃ k : Nat, S = ⟨104, [(9, .a (entsA ts)), (10, .a (clasA cs)), (11, .a (entsA ts)), (12, .a (clasA cs)), (13, .a (.v (.int .i64 ((k : Int)))))], []⟩ ∧ nn0 = ts.length - k ∧ (k ≤ ts.length)) (ts.length - (0)) ⟨104, [(9, .a (entsA ts)), (10, .a (clasA cs)), (11, .a (entsA ts)), (12, .a (clasA cs)), (13, .a (.v (.int .i64 (((0) : Int)))))], []⟩ ⟨rfl, (Slots.cons rfl (by first | exact .refl _ | exact .nilOwn _ _ | exact .nilSl _ | exact .ownSl _ _ _  | exact SV.le.of_eq (by simp)) (Slots.cons rfl (by first | exact .refl _ | exact .nilOwn _ _ | exact .nilSl _ | exact .ownSl _ _ _  | exact SV.le.of_eq (by simp)) (Slots.cons rfl (by first | exact .refl _ | exact .nilOwn _ _ | exact .nilSl _ | exact .ownSl _ _ _  | exact SV.le.of_eq (by simp)) (Slots.cons rfl (by first | exact .refl _ | exact .nilOwn _ _ | exact .nilSl _ | exact .ownSl _ _ _  | exact SV.le.of_eq (by simp)) (Slots.cons rfl (by first | exact .refl _ | exact .nilOwn _ _ | exact .nilSl _ | exact .ownSl _ _ _  | exact SV.le.of_eq (by simp)) Slots.nil))))), (by first | exact List.Sublist.refl _ | exact .cons_cons _ (.cons _ (.refl _)) | exact List.nil_sublist _ | exact .cons _ (.refl _) | exact .cons _ (.cons _ (.refl _)) | exact .cons _ (.cons _ (.cons _ (.refl _))) | exact .cons _ (.cons _ (.cons _ (.cons _ (.refl _)))) | exact .cons_cons _ (List.nil_sublist _))⟩ ⟨0, rfl, rfl, Nat.zero_le _⟩ ?_
        rintro nn0 _ ⟨k, rfl, rfl, hk⟩
        refine awp_seq ?_
        refine awp_seq ?_
        refine awp_region ?_
        refine r_move rfl rfl ?_
        refine r_move rfl rfl ?_
        first | (refine r_lenS rfl rfl T.sl22 rfl ?_) | (refine r_lenNil rfl T.sl22 rfl ?_)
        refine r_cmp rfl rfl rfl rfl ?_
        refine awl_nil ?_
        refine x_then ?_
        refine awp_cond rfl (fun hc3 => ?_) (fun hc3 => ?_)
        ·
          have hltx : k < ts.length := by have := of_decide_eq_true hc3; simpa using this
          obtain ⟨x, hx⟩ := get_lt hltx
          refine awp_skip ?_
          refine x_then ?_
          refine awp_seq ?_
          refine awp_block ?_
          refine awp_seq ?_
          refine awp_drawS [58, 59, 60, 61, 62, 63, 64, 65] [_, _, _, _, _, _, _, _] [] [] T.mixed rfl rfl rfl ⟨⟨⟨⟨⟨⟨⟨⟨trivial
            , ⟨_, rfl, fun sl hd hr ho => by
                refine r_move (hr 9 _ rfl rfl rfl) rfl ?_
                exact awl_nil ⟨rfl, post_put⟩⟩⟩
            , ⟨_, rfl, fun sl hd hr ho => by
                refine r_move (hr 13 _ rfl rfl rfl) rfl ?_
                exact awl_nil ⟨rfl, post_put⟩⟩⟩
            , ⟨_, rfl, fun sl hd hr ho => by
                refine r_index (hd 0 _ rfl rfl rfl) rfl (hd 1 _ rfl rfl rfl) T.sl22 T.sz35 (by omega) (get_map hx) rfl ?_
                exact awl_nil ⟨rfl, post_put⟩⟩⟩
            , ⟨_, rfl, fun sl hd hr ho => by
                refine r_loadA (hd 2 _ rfl rfl rfl) T.agg35 T.sz35 rfl rfl ?_
                exact awl_nil ⟨rfl, post_put⟩⟩⟩
            , ⟨_, rfl, fun sl hd hr ho => by
                refine r_move (hr 11 _ rfl rfl rfl) rfl ?_
                exact awl_nil ⟨rfl, post_put⟩⟩⟩
            , ⟨_, rfl, fun sl hd hr ho => by
                refine r_move (hr 13 _ rfl rfl rfl) rfl ?_
                exact awl_nil ⟨rfl, post_put⟩⟩⟩
            , ⟨_, rfl, fun sl hd hr ho => by
                refine r_index (hd 4 _ rfl rfl rfl) rfl (hd 5 _ rfl rfl rfl) T.sl22 T.sz35 (by omega) (get_map hx) rfl ?_
                exact awl_nil ⟨rfl, post_put⟩⟩⟩
            , ⟨_, rfl, fun sl hd hr ho => by
                refine r_loadA (hd 6 _ rfl rfl rfl) T.agg35 T.sz35 rfl rfl ?_
                exact awl_nil ⟨rfl, post_put⟩⟩⟩
            (by rfl) ?_
          refine r_sne (us := (Ent.ns x)) (vs := (Ent.ns x)) rfl rfl T.mix35 (isVal_cells rfl) (isVal_cells rfl) rfl rfl rfl ?_
          refine awl_nil ?_
          refine x_then ?_
          refine awp_cond rfl (fun hc4 => ?_) (fun hc4 => ?_)
          ·
            exfalso; simp at hc4
          ·
            refine awp_skip ?_
            refine x_block ?_
            refine x_then ?_
            refine awp_region ?_
            refine r_move rfl rfl ?_
            refine r_ari _ rfl rfl rfl (wrap_id (by first | omega | (simp; omega))) rfl ?_
            refine r_assign rfl rfl ?_
            refine awl_nil ?_
            refine x_then ?_
            refine ⟨ts.length - (k + 1), ⟨104, [(9, .a (entsA ts)), (10, .a (clasA cs)), (11, .a (entsA ts)), (12, .a (clasA cs)), (13, .a (.v (.int .i64 (((k + 1) : Int)))))], []⟩, ⟨rfl, (Slots.cons rfl (by first | exact .refl _ | exact .nilOwn _ _ | exact .nilSl _ | exact .ownSl _ _ _  | exact SV.le.of_eq (by simp)) (Slots.cons rfl (by first | exact .refl _ | exact .nilOwn _ _ | exact .nilSl _ | exact .ownSl _ _ _  | exact SV.le.of_eq (by simp)) (Slots.cons rfl (by first | exact .refl _ | exact .nilOwn _ _ | exact .nilSl _ | exact .ownSl _ _ _  | exact SV.le.of_eq (by simp)) (Slots.cons rfl (by first | exact .refl _ | exact .nilOwn _ _ | exact .nilSl _ | exact .ownSl _ _ _  | exact SV.le.of_eq (by simp)) (Slots.cons rfl (by first | exact .refl _ | exact .nilOwn _ _ | exact .nilSl _ | exact .ownSl _ _ _  | exact SV.le.of_eq (by simp)) Slots.nil))))), (by first | exact List.Sublist.refl _ | exact .cons_cons _ (.cons _ (.refl _)) | exact List.nil_sublist _ | exact .cons _ (.refl _) | exact .cons _ (.cons _ (.refl _)) | exact .cons _ (.cons _ (.cons _ (.refl _))) | exact .cons _ (.cons _ (.cons _ (.cons _ (.refl _)))) | exact .cons_cons _ (List.nil_sublist _))⟩, (by omega), ⟨k + 1, rfl, rfl, (by have := (List.getElem?_eq_some_iff.1 hx).1; omega)⟩⟩
        ·
          refine awp_exit ?_
          refine x_thenE ?_
          refine x_thenE ?_
          refine x_blockE ?_
          refine x_then ?_
          refine awp_seq ?_
          refine awp_seq ?_
          refine awp_region ?_
          refine r_assign rfl rfl ?_
          refine awl_nil ?_
          refine x_then ?_
          refine awp_block ?_
          refine awp_loop (fun nn0 S => ∃ j : Nat, S = ⟨104, [(10, .a (clasA cs)), (12, .a (clasA cs)), (14, .a (.v (.int .i64 ((j : Int)))))], []⟩ ∧ nn0 = cs.length - j ∧ (j ≤ cs.length)) (cs.length - (0)) ⟨104, [(10, .a (clasA cs)), (12, .a (clasA cs)), (14, .a (.v (.int .i64 (((0) : Int)))))], []⟩ ⟨rfl, (Slots.cons rfl (by first | exact .refl _ | exact .nilOwn _ _ | exact .nilSl _ | exact .ownSl _ _ _  | exact SV.le.of_eq (by simp)) (Slots.cons rfl (by first | exact .refl _ | exact .nilOwn _ _ | exact .nilSl _ | exact .ownSl _ _ _  | exact SV.le.of_eq (by simp)) (Slots.cons rfl (by first | exact .refl _ | exact .nilOwn _ _ | exact .nilSl _ | exact .ownSl _ _ _  | exact SV.le.of_eq (by simp)) Slots.nil))), (by first | exact List.Sublist.refl _ | exact .cons_cons _ (.cons _ (.refl _)) | exact List.nil_sublist _ | exact .cons _ (.refl _) | exact .cons _ (.cons _ (.refl _)) | exact .cons _ (.cons _ (.cons _ (.refl _))) | exact .cons _ (.cons _ (.cons _ (.cons _ (.refl _)))) | exact .cons_cons _ (List.nil_sublist _))⟩ ⟨0, rfl, rfl, Nat.zero_le _⟩ ?_
          rintro nn0 _ ⟨j, rfl, rfl, hj⟩
          refine awp_seq ?_
          refine awp_seq ?_
          refine awp_region ?_
          refine r_move rfl rfl ?_
          refine r_move rfl rfl ?_
          first | (refine r_lenS rfl rfl T.sl31 rfl ?_) | (refine r_lenNil rfl T.sl31 rfl ?_)
          refine r_cmp rfl rfl rfl rfl ?_
          refine awl_nil ?_
          refine x_then ?_
          refine awp_cond rfl (fun hc5 => ?_) (fun hc5 => ?_)
          ·
            have hlty : j < cs.length := by have := of_decide_eq_true hc5; simpa using this
            obtain ⟨y, hy⟩ := get_lt hlty
            refine awp_skip ?_
            refine x_then ?_
            refine awp_seq ?_
            refine awp_block ?_
            refine awp_seq ?_
            refine awp_drawS [73, 74, 75, 76, 77, 78, 79, 80, 81, 82, 83, 84, 85, 86, 87, 88, 89, 90, 91, 92, 93, 94, 95, 96, 97, 98, 99, 100, 101, 102] [_, _, _, _, _, _, _, _, _, _, _, _, _, _, _, _, _, _, _, _, _, _, _, _, _, _, _, _, _, _] [] [] T.mixed rfl rfl rfl ⟨⟨⟨⟨⟨⟨⟨⟨⟨⟨⟨⟨⟨⟨⟨⟨⟨⟨⟨⟨⟨⟨⟨⟨⟨⟨⟨⟨⟨⟨trivial
              , ⟨_, rfl, fun sl hd hr ho => by
                  refine r_move (hr 10 _ rfl rfl rfl) rfl ?_
                  exact awl_nil ⟨rfl, post_put⟩⟩⟩
              , ⟨_, rfl, fun sl hd hr ho => by
                  refine r_move (hr 14 _ rfl rfl rfl) rfl ?_
                  exact awl_nil ⟨rfl, post_put⟩⟩⟩
              , ⟨_, rfl, fun sl hd hr ho => by
                  refine r_index (hd 0 _ rfl rfl rfl) rfl (hd 1 _ rfl rfl rfl) T.sl26 T.sz37 (by omega) (get_map hy) rfl ?_
                  exact awl_nil ⟨rfl, post_put⟩⟩⟩
              , ⟨_, rfl, fun sl hd hr ho => by
                  refine r_loadA (hd 2 _ rfl rfl rfl) T.agg37 T.sz37 rfl rfl ?_
                  exact awl_nil ⟨rfl, post_put⟩⟩⟩
              , ⟨_, rfl, fun sl hd hr ho => by
                  refine r_move (hr 12 _ rfl rfl rfl) rfl ?_
                  exact awl_nil ⟨rfl, post_put⟩⟩⟩
              , ⟨_, rfl, fun sl hd hr ho => by
                  refine r_move (hr 14 _ rfl rfl rfl) rfl ?_
                  exact awl_nil ⟨rfl, post_put⟩⟩⟩
              , ⟨_, rfl, fun sl hd hr ho => by
                  refine r_index (hd 4 _ rfl rfl rfl) rfl (hd 5 _ rfl rfl rfl) T.sl31 T.sz38 (by omega) (get_map hy) rfl ?_
                  exact awl_nil ⟨rfl, post_put⟩⟩⟩
              , ⟨_, rfl, fun sl hd hr ho => by
                  first | (refine r_fieldcp (hd 6 _ rfl rfl rfl) T.f38_0 T.sz3 rfl ?_) | (refine r_fieldb (hd 6 _ rfl rfl rfl) T.f38_0 T.sz3 rfl ?_)
                  exact awl_nil ⟨rfl, post_put⟩⟩⟩
              , ⟨_, rfl, fun sl hd hr ho => by
                  refine r_load1 (hd 7 _ rfl rfl rfl) T.agg3 rfl ?_
                  exact awl_nil ⟨rfl, post_put⟩⟩⟩
              , ⟨_, rfl, fun sl hd hr ho => by
                  refine r_move (hr 12 _ rfl rfl rfl) rfl ?_
                  exact awl_nil ⟨rfl, post_put⟩⟩⟩
              , ⟨_, rfl, fun sl hd hr ho => by
                  refine r_move (hr 14 _ rfl rfl rfl) rfl ?_
                  exact awl_nil ⟨rfl, post_put⟩⟩⟩
              , ⟨_, rfl, fun sl hd hr ho => by
                  refine r_index (hd 9 _ rfl rfl rfl) rfl (hd 10 _ rfl rfl rfl) T.sl31 T.sz38 (by omega) (get_map hy) rfl ?_
                  exact awl_nil ⟨rfl, post_put⟩⟩⟩
              , ⟨_, rfl, fun sl hd hr ho => by
                  first | (refine r_fieldcp (hd 11 _ rfl rfl rfl) T.f38_1 T.sz3 rfl ?_) | (refine r_fieldb (hd 11 _ rfl rfl rfl) T.f38_1 T.sz3 rfl ?_)
                  exact awl_nil ⟨rfl, post_put⟩⟩⟩
              , ⟨_, rfl, fun sl hd hr ho => by
                  refine r_load1 (hd 12 _ rfl rfl rfl) T.agg3 rfl ?_
                  exact awl_nil ⟨rfl, post_put⟩⟩⟩
              , ⟨_, rfl, fun sl hd hr ho => by
                  refine r_move (hr 12 _ rfl rfl rfl) rfl ?_
                  exact awl_nil ⟨rfl, post_put⟩⟩⟩
              , ⟨_, rfl, fun sl hd hr ho => by
                  refine r_move (hr 14 _ rfl rfl rfl) rfl ?_
                  exact awl_nil ⟨rfl, post_put⟩⟩⟩
              , ⟨_, rfl, fun sl hd hr ho => by
                  refine r_index (hd 14 _ rfl rfl rfl) rfl (hd 15 _ rfl rfl rfl) T.sl31 T.sz38 (by omega) (get_map hy) rfl ?_
                  exact awl_nil ⟨rfl, post_put⟩⟩⟩
              , ⟨_, rfl, fun sl hd hr ho => by
                  first | (refine r_fieldcp (hd 16 _ rfl rfl rfl) T.f38_2 T.sz23 rfl ?_) | (refine r_fieldb (hd 16 _ rfl rfl rfl) T.f38_2 T.sz23 rfl ?_)
                  exact awl_nil ⟨rfl, post_put⟩⟩⟩
              , ⟨_, rfl, fun sl hd hr ho => by
                  refine r_load1 (hd 17 _ rfl rfl rfl) T.agg23 rfl ?_
                  exact awl_nil ⟨rfl, post_put⟩⟩⟩
              , ⟨_, rfl, fun sl hd hr ho => by
                  refine r_move (hr 12 _ rfl rfl rfl) rfl ?_
                  exact awl_nil ⟨rfl, post_put⟩⟩⟩
              , ⟨_, rfl, fun sl hd hr ho => by
                  refine r_move (hr 14 _ rfl rfl rfl) rfl ?_
                  exact awl_nil ⟨rfl, post_put⟩⟩⟩
              , ⟨_, rfl, fun sl hd hr ho => by
                  refine r_index (hd 19 _ rfl rfl rfl) rfl (hd 20 _ rfl rfl rfl) T.sl31 T.sz38 (by omega) (get_map hy) rfl ?_
                  exact awl_nil ⟨rfl, post_put⟩⟩⟩
              , ⟨_, rfl, fun sl hd hr ho => by
                  first | (refine r_fieldcp (hd 21 _ rfl rfl rfl) T.f38_3 T.sz23 rfl ?_) | (refine r_fieldb (hd 21 _ rfl rfl rfl) T.f38_3 T.sz23 rfl ?_)
                  exact awl_nil ⟨rfl, post_put⟩⟩⟩
              , ⟨_, rfl, fun sl hd hr ho => by
                  refine r_load1 (hd 22 _ rfl rfl rfl) T.agg23 rfl ?_
                  exact awl_nil ⟨rfl, post_put⟩⟩⟩
              , ⟨_, rfl, fun sl hd hr ho => by
                  refine r_move (hr 12 _ rfl rfl rfl) rfl ?_
                  exact awl_nil ⟨rfl, post_put⟩⟩⟩
              , ⟨_, rfl, fun sl hd hr ho => by
                  refine r_move (hr 14 _ rfl rfl rfl) rfl ?_
                  exact awl_nil ⟨rfl, post_put⟩⟩⟩
              , ⟨_, rfl, fun sl hd hr ho => by
                  refine r_index (hd 24 _ rfl rfl rfl) rfl (hd 25 _ rfl rfl rfl) T.sl31 T.sz38 (by omega) (get_map hy) rfl ?_
                  exact awl_nil ⟨rfl, post_put⟩⟩⟩
              , ⟨_, rfl, fun sl hd hr ho => by
                  first | (refine r_fieldcp (hd 26 _ rfl rfl rfl) T.f38_4 T.sz23 rfl ?_) | (refine r_fieldb (hd 26 _ rfl rfl rfl) T.f38_4 T.sz23 rfl ?_)
                  exact awl_nil ⟨rfl, post_put⟩⟩⟩
              , ⟨_, rfl, fun sl hd hr ho => by
                  refine r_load1 (hd 27 _ rfl rfl rfl) T.agg23 rfl ?_
                  exact awl_nil ⟨rfl, post_put⟩⟩⟩
              , ⟨_, rfl, fun sl hd hr ho => by
                  refine r_build (parts := [(0, .tmp 81), (1, .tmp 86), (2, .tmp 91), (3, .tmp 96), (4, .tmp 101)]) rfl T.pl37 T.zero37 (parts_cons (hd 8 _ rfl rfl rfl) (parts_cons (hd 13 _ rfl rfl rfl) (parts_cons (hd 18 _ rfl rfl rfl) (parts_cons (hd 23 _ rfl rfl rfl) (parts_cons (hd 28 _ rfl rfl rfl) parts_nil))))) rfl rfl ?_
                  exact awl_nil ⟨rfl, post_put⟩⟩⟩
              (by rfl) ?_
            refine r_sne (us := (Cla.ns y)) (vs := (Cla.ns y)) rfl rfl T.mix37 (isVal_cells rfl) (isVal_cells rfl) rfl rfl rfl ?_
            refine awl_nil ?_
            refine x_then ?_
            refine awp_cond rfl (fun hc6 => ?_) (fun hc6 => ?_)
            ·
              exfalso; simp at hc6
            ·
              refine awp_skip ?_
              refine x_block ?_
              refine x_then ?_
              refine awp_region ?_
              refine r_move rfl rfl ?_
              refine r_ari _ rfl rfl rfl (wrap_id (by first | omega | (simp; omega))) rfl ?_
              refine r_assign rfl rfl ?_
              refine awl_nil ?_
              refine x_then ?_
              refine ⟨cs.length - (j + 1), ⟨104, [(10, .a (clasA cs)), (12, .a (clasA cs)), (14, .a (.v (.int .i64 (((j + 1) : Int)))))], []⟩, ⟨rfl, (Slots.cons rfl (by first | exact .refl _ | exact .nilOwn _ _ | exact .nilSl _ | exact .ownSl _ _ _  | exact SV.le.of_eq (by simp)) (Slots.cons rfl (by first | exact .refl _ | exact .nilOwn _ _ | exact .nilSl _ | exact .ownSl _ _ _  | exact SV.le.of_eq (by simp)) (Slots.cons rfl (by first | exact .refl _ | exact .nilOwn _ _ | exact .nilSl _ | exact .ownSl _ _ _  | exact SV.le.of_eq (by simp)) Slots.nil))), (by first | exact List.Sublist.refl _ | exact .cons_cons _ (.cons _ (.refl _)) | exact List.nil_sublist _ | exact .cons _ (.refl _) | exact .cons _ (.cons _ (.refl _)) | exact .cons _ (.cons _ (.cons _ (.refl _))) | exact .cons _ (.cons _ (.cons _ (.cons _ (.refl _)))) | exact .cons_cons _ (List.nil_sublist _))⟩, (by omega), ⟨j + 1, rfl, rfl, (by have := (List.getElem?_eq_some_iff.1 hy).1; omega)⟩⟩
          ·
            refine awp_exit ?_
            refine x_thenE ?_
            refine x_thenE ?_
            refine x_blockE ?_
            refine x_then ?_
            refine awp_seq ?_
            refine awp_region ?_
            refine r_assign rfl rfl ?_
            refine awl_nil ?_
            refine x_then ?_
            refine awp_ret ?_
            exact ⟨(.inl rfl), _, [], (.one (by first | exact .mk rfl rfl | exact .nil rfl)), ⟨rfl, rfl⟩, (List.nil_sublist _), (by simp)⟩

theorem same_law (a b : List Ent) (table : Int) (hga : Good a) (hgb : Good b) : AC Try.prog 4 [entsA a, entsA b, numA table] [] (fun r n => n = [] ∧ r = bA true) := by
  refine ac_of_awp (rs := [6]) (nt := 29) Try.func4 rfl rfl rfl rfl (fun w0 C0 hq => ?_)
  refine awp_seq ?_
  refine awp_region ?_
  refine r_assign rfl rfl ?_
  refine awl_nil ?_
  refine x_then ?_
  refine awp_seq ?_
  refine awp_seq ?_
  refine awp_region ?_
  refine r_call0 hq rfl rfl .nil (awake_ok) rfl T.en11 rfl (fun r hr => ?_)
  obtain rfl := hr
  refine r_not rfl rfl ?_
  refine awl_nil ?_
  refine x_then ?_
  refine awp_cond rfl (fun hc0 => ?_) (fun hc0 => ?_)
  ·
    exfalso; exact absurd hc0 (by decide)
  ·
    refine awp_skip ?_
    refine x_then ?_
    refine awp_seq ?_
    refine awp_seq ?_
    refine awp_region ?_
    refine r_move rfl rfl ?_
    refine r_move rfl rfl ?_
    refine r_lit 11 (parts := [(0, .tmp 9), (1, .tmp 10)]) rfl T.sl44 T.sz22 T.zraw22 rfl rfl rfl rfl rfl rfl rfl ?_
    refine r_call0 hq rfl rfl (.cons (.ev rfl rfl) .nil) (great_ok [a, b] (by simp)) rfl T.en12 rfl (fun r hr => ?_)
    rcases hr with rfl | ⟨rfl, hle⟩
    
    ·
      refine r_cmp rfl rfl rfl rfl ?_
      refine awl_nil ?_
      refine x_then ?_
      refine awp_condT rfl ?_
      refine awp_seq ?_
      refine awp_region ?_
      refine r_assign rfl rfl ?_
      refine awl_nil ?_
      refine x_then ?_
      refine awp_ret ?_
      refine x_thenR ?_
      exact ⟨(.inl rfl), _, [], (.one (by first | exact .mk rfl rfl | exact .nil rfl)), ⟨rfl, rfl⟩, (List.nil_sublist _), (by simp)⟩
    ·
      have hla : a.length ≤ 20 := hle a (by simp)
      have hlb : b.length ≤ 20 := hle b (by simp)
      refine r_cmp rfl rfl rfl rfl ?_
      refine awl_nil ?_
      refine x_then ?_
      refine awp_condF rfl ?_
      refine awp_skip ?_
      refine x_then ?_
      refine awp_seq ?_
      refine awp_region ?_
      refine r_move rfl rfl ?_
      refine r_move rfl rfl ?_
      refine r_move rfl rfl ?_
      refine r_call0 hq rfl rfl (.cons (.ev rfl rfl) .nil) (by_ok table) rfl T.en14 rfl (fun r hr => ?_)
      obtain rfl := hr
      refine r_call0 hq rfl rfl (.cons (.ev rfl rfl) (.cons (.ev rfl rfl) (.cons (.ev rfl rfl) .nil))) (same_ok (told_by table) rfl rfl a b (by omega) (by omega) hga hgb) rfl T.en16 rfl (fun r hr => ?_)
      obtain rfl := hr
      refine r_move rfl rfl ?_
      refine r_move rfl rfl ?_
      refine r_move rfl rfl ?_
      refine r_call0 hq rfl rfl (.cons (.ev rfl rfl) (.cons (.ev rfl rfl) (.cons (.ev rfl rfl) .nil))) (rsame_ok a b table (by omega) (by omega) hga hgb) rfl T.en17 rfl (fun r hr => ?_)
      obtain rfl := hr
      refine r_beq rfl rfl T.un4 rfl ?_
      refine r_move rfl rfl ?_
      refine g_run rfl rfl (by simp) ?_
      refine r_move rfl rfl ?_
      refine g_run rfl rfl (by simp) ?_
      refine r_move rfl rfl ?_
      refine g_run rfl rfl (by simp) ?_
      refine r_call0 hq rfl rfl (.cons (.ev rfl rfl) (.cons (.ev rfl rfl) (.cons (.ev rfl rfl) .nil))) (same_ok .nil rfl rfl a a (by omega) (by omega) hga hga) rfl T.en16 rfl (fun r hr => ?_)
      obtain rfl := hr
      rw [sameF_self]
      refine r_pickT rfl (by simp) rfl rfl ?_
      refine r_assign rfl rfl ?_
      refine awl_nil ?_
      refine x_then ?_
      refine awp_ret ?_
      exact ⟨(.inl rfl), _, [], (.one (by first | exact .mk rfl rfl | exact .nil rfl)), ⟨rfl, rfl⟩, (List.nil_sublist _), (by simp)⟩

theorem one_law (base theirs : List Ent) (hgb : Good base) (hgt : Good theirs) : AC Try.prog 6 [entsA base, entsA theirs] [] (fun r n => n = [] ∧ r = bA true) := by
  refine ac_of_awp (rs := [4]) (nt := 52) Try.func6 rfl rfl rfl rfl (fun w0 C0 hq => ?_)
  refine awp_seq ?_
  refine awp_region ?_
  refine r_assign rfl rfl ?_
  refine awl_nil ?_
  refine x_then ?_
  refine awp_seq ?_
  refine awp_seq ?_
  refine awp_region ?_
  refine r_call0 hq rfl rfl .nil (awake_ok) rfl T.en11 rfl (fun r hr => ?_)
  obtain rfl := hr
  refine r_not rfl rfl ?_
  refine awl_nil ?_
  refine x_then ?_
  refine awp_cond rfl (fun hc0 => ?_) (fun hc0 => ?_)
  ·
    exfalso; exact absurd hc0 (by decide)
  ·
    refine awp_skip ?_
    refine x_then ?_
    refine awp_seq ?_
    refine awp_seq ?_
    refine awp_region ?_
    refine r_move rfl rfl ?_
    refine r_move rfl rfl ?_
    refine r_lit 13 (parts := [(0, .tmp 11), (1, .tmp 12)]) rfl T.sl44 T.sz22 T.zraw22 rfl rfl rfl rfl rfl rfl rfl ?_
    refine r_call0 hq rfl rfl (.cons (.ev rfl rfl) .nil) (great_ok [base, theirs] (by simp)) rfl T.en12 rfl (fun r hr => ?_)
    rcases hr with rfl | ⟨rfl, hle⟩
    
    ·
      refine r_cmp rfl rfl rfl rfl ?_
      refine awl_nil ?_
      refine x_then ?_
      refine awp_condT rfl ?_
      refine awp_seq ?_
      refine awp_region ?_
      refine r_assign rfl rfl ?_
      refine awl_nil ?_
      refine x_then ?_
      refine awp_ret ?_
      refine x_thenR ?_
      exact ⟨(.inl rfl), _, [], (.one (by first | exact .mk rfl rfl | exact .nil rfl)), ⟨rfl, rfl⟩, (List.nil_sublist _), (by simp)⟩
    ·
      have hlbase : base.length ≤ 20 := hle base (by simp)
      have hltheirs : theirs.length ≤ 20 := hle theirs (by simp)
      refine r_cmp rfl rfl rfl rfl ?_
      refine awl_nil ?_
      refine x_then ?_
      refine awp_condF rfl ?_
      refine awp_skip ?_
      refine x_then ?_
      refine awp_seq ?_
      refine awp_region ?_
      refine r_move rfl rfl ?_
      refine r_move rfl rfl ?_
      refine r_move rfl rfl ?_
      refine r_call0 hq rfl rfl (.cons (.ev rfl rfl) (.cons (.ev rfl rfl) (.cons (.ev rfl rfl) (.cons (.ev rfl rfl) .nil)))) (three_ok .nil base base theirs (by omega) (by omega) (by omega) hgb hgb hgt) rfl T.en13 rfl (fun r hr => ?_)
      obtain rfl := hr
      rw [one_clash]
      refine r_move rfl rfl ?_
      refine r_extract rfl rfl rfl ?_
      refine r_extract rfl rfl rfl ?_
      refine r_assign rfl rfl ?_
      refine r_assign rfl rfl ?_
      refine awl_nil ?_
      refine x_then ?_
      refine awp_seq ?_
      refine awp_region ?_
      refine r_move rfl rfl ?_
      refine r_move rfl rfl ?_
      refine r_move rfl rfl ?_
      refine r_call0 hq rfl rfl (.cons (.ev rfl rfl) (.cons (.ev rfl rfl) (.cons (.ev rfl rfl) (.cons (.ev rfl rfl) .nil)))) (three_ok .nil base theirs base (by omega) (by omega) (by omega) hgb hgt hgb) rfl T.en13 rfl (fun r hr => ?_)
      obtain rfl := hr
      rw [one_none, one_no]
      refine r_move rfl rfl ?_
      refine r_extract rfl rfl rfl ?_
      refine r_extract rfl rfl rfl ?_
      refine r_assign rfl rfl ?_
      refine r_assign rfl rfl ?_
      refine awl_nil ?_
      refine x_then ?_
      refine awp_seq ?_
      refine awp_region ?_
      refine r_move rfl rfl ?_
      first | (refine r_lenS rfl rfl T.sl26 rfl ?_) | (refine r_lenNil rfl T.sl26 rfl ?_)
      refine r_cmp rfl rfl rfl rfl ?_
      refine r_move rfl rfl ?_
      refine g_run rfl rfl rfl ?_
      refine r_move rfl rfl ?_
      refine g_run rfl rfl rfl ?_
      first | (refine r_lenS rfl rfl T.sl22 rfl ?_) | (refine r_lenNil rfl T.sl22 rfl ?_)
      refine g_run rfl rfl rfl ?_
      refine r_cmp rfl rfl rfl rfl ?_
      refine r_pickT rfl rfl rfl rfl ?_
      refine r_move rfl rfl ?_
      refine g_run rfl rfl rfl ?_
      refine r_move rfl rfl ?_
      refine g_run rfl rfl rfl ?_
      first | (refine r_lenS rfl rfl T.sl26 rfl ?_) | (refine r_lenNil rfl T.sl26 rfl ?_)
      refine g_run rfl rfl rfl ?_
      refine r_cmp rfl rfl rfl rfl ?_
      refine r_pickT rfl rfl rfl rfl ?_
      refine r_move rfl rfl ?_
      refine g_run rfl rfl rfl ?_
      refine r_lit 44 (parts := []) rfl T.sl22 T.sz35 T.zraw35 rfl rfl rfl rfl rfl rfl rfl ?_
      refine g_run rfl rfl rfl ?_
      refine r_move rfl rfl ?_
      refine g_run rfl rfl rfl ?_
      refine r_append 44 rfl (by first | exact .own _ | exact .nil) rfl (by first | exact .sl _ | exact .own _ _ | exact .nil) T.sl22 T.sz35 (by decide) T.by35 T.zlen35 (by have := take_len (fun _ _ => false) base base theirs; simp [chunks]; omega) (by have := take_len (fun _ _ => false) base base theirs; simp [chunks]; omega) rfl ?_
      refine g_run rfl rfl rfl ?_
      refine r_move rfl rfl ?_
      refine g_run rfl rfl rfl ?_
      refine r_append 44 rfl (by first | exact .own _ | exact .nil) rfl (by first | exact .sl _ | exact .own _ _ | exact .nil) T.sl22 T.sz35 (by decide) T.by35 T.zlen35 (by have := take_len (fun _ _ => false) base base theirs; simp [chunks]; omega) (by have := take_len (fun _ _ => false) base base theirs; simp [chunks]; omega) rfl ?_
      refine g_run rfl rfl rfl ?_
      refine awl_imp (imp_le 48 (x := .a (entsA (takeF (fun _ _ => false) base base theirs ++ base))) rfl (.ownEq (by simp [chunks]))) ?_
      refine r_move rfl rfl ?_
      refine g_run rfl rfl rfl ?_
      refine r_call0 hq rfl rfl (.cons (.ev rfl rfl) (.cons (.ev rfl rfl) (.cons (.ev rfl rfl) .nil))) (same_ok .nil rfl rfl (takeF (fun _ _ => false) base base theirs ++ base) theirs (by have := take_len (fun _ _ => false) base base theirs; simp; omega) (by omega) (over_good hgb hgt) hgt) rfl T.en16 rfl (fun r hr => ?_)
      obtain rfl := hr
      rw [one_same]
      refine r_pickT rfl rfl rfl rfl ?_
      refine r_assign rfl rfl ?_
      refine awl_nil ?_
      refine x_then ?_
      refine awp_ret ?_
      exact ⟨(.inl rfl), _, [], (.one (by first | exact .mk rfl rfl | exact .nil rfl)), ⟨rfl, rfl⟩, (List.nil_sublist _), (by simp)⟩

theorem apart_law (base ours theirs : List Ent) (hgb : Good base) (hgo : Good ours) (hgt : Good theirs) : AC Try.prog 7 [entsA base, entsA ours, entsA theirs] [] (fun r n => n = [] ∧ r = bA true) := by
  refine ac_of_awp (rs := [6]) (nt := 135) Try.func7 rfl rfl rfl rfl (fun w0 C0 hq => ?_)
  refine awp_seq ?_
  refine awp_region ?_
  refine r_assign rfl rfl ?_
  refine awl_nil ?_
  refine x_then ?_
  refine awp_seq ?_
  refine awp_seq ?_
  refine awp_region ?_
  refine r_call0 hq rfl rfl .nil (awake_ok) rfl T.en11 rfl (fun r hr => ?_)
  obtain rfl := hr
  refine r_not rfl rfl ?_
  refine awl_nil ?_
  refine x_then ?_
  refine awp_cond rfl (fun hc0 => ?_) (fun hc0 => ?_)
  ·
    exfalso; exact absurd hc0 (by decide)
  ·
    refine awp_skip ?_
    refine x_then ?_
    refine awp_seq ?_
    refine awp_seq ?_
    refine awp_region ?_
    refine r_move rfl rfl ?_
    refine r_move rfl rfl ?_
    refine r_move rfl rfl ?_
    refine r_lit 23 (parts := [(0, .tmp 20), (1, .tmp 21), (2, .tmp 22)]) rfl T.sl44 T.sz22 T.zraw22 rfl rfl rfl rfl rfl rfl rfl ?_
    refine r_call0 hq rfl rfl (.cons (.ev rfl rfl) .nil) (great_ok [base, ours, theirs] (by simp)) rfl T.en12 rfl (fun r hr => ?_)
    rcases hr with rfl | ⟨rfl, hle⟩
    
    ·
      refine r_cmp rfl rfl rfl rfl ?_
      refine awl_nil ?_
      refine x_then ?_
      refine awp_condT rfl ?_
      refine awp_seq ?_
      refine awp_region ?_
      refine r_assign rfl rfl ?_
      refine awl_nil ?_
      refine x_then ?_
      refine awp_ret ?_
      refine x_thenR ?_
      exact ⟨(.inl rfl), _, [], (.one (by first | exact .mk rfl rfl | exact .nil rfl)), ⟨rfl, by simp [bA, SV.av]⟩, (List.nil_sublist _), (by simp)⟩
    ·
      have hlbase : base.length ≤ 20 := hle base (by simp)
      have hlours : ours.length ≤ 20 := hle ours (by simp)
      have hltheirs : theirs.length ≤ 20 := hle theirs (by simp)
      refine r_cmp rfl rfl rfl rfl ?_
      refine awl_nil ?_
      refine x_then ?_
      refine awp_condF rfl ?_
      refine awp_skip ?_
      refine x_then ?_
      refine awp_seq ?_
      refine awp_region ?_
      refine r_move rfl rfl ?_
      refine r_move rfl rfl ?_
      refine r_move rfl rfl ?_
      refine r_call0 hq rfl rfl (.cons (.ev rfl rfl) (.cons (.ev rfl rfl) (.cons (.ev rfl rfl) (.cons (.ev rfl rfl) .nil)))) (three_ok .nil base ours theirs (by omega) (by omega) (by omega) hgb hgo hgt) rfl T.en13 rfl (fun r hr => ?_)
      obtain rfl := hr
      have htl := take_len (fun _ _ => false) base ours theirs
      refine r_move rfl rfl ?_
      refine r_extract rfl rfl rfl ?_
      refine r_extract rfl rfl rfl ?_
      refine r_assign rfl rfl ?_
      refine r_assign rfl rfl ?_
      refine awl_nil ?_
      refine x_then ?_
      refine awp_seq ?_
      refine awp_seq ?_
      refine awp_region ?_
      refine r_move rfl rfl ?_
      first | (refine r_lenS rfl rfl T.sl22 rfl ?_) | (refine r_lenNil rfl T.sl22 rfl ?_)
      refine r_cmp rfl rfl rfl rfl ?_
      refine awl_nil ?_
      refine x_then ?_
      refine awp_cond rfl (fun hc2 => ?_) (fun hc2 => ?_)
      ·
        exfalso; have := of_decide_eq_true hc2; simp at this; omega
      ·
        refine awp_skip ?_
        refine x_then ?_
        refine awp_seq ?_
        refine awp_region ?_
        refine r_lit 36 (parts := []) rfl T.sl22 T.sz35 T.zraw35 rfl rfl rfl rfl rfl rfl rfl ?_
        refine r_move rfl rfl ?_
        refine r_append 36 rfl (by first | exact .own _ | exact .nil) rfl (by first | exact .sl _ | exact .own _ _ | exact .nil) T.sl22 T.sz35 (by decide) T.by35 T.zlen35 (by simp [chunks]; omega) (by simp [chunks]; omega) rfl ?_
        refine r_move rfl rfl ?_
        refine r_append 36 rfl (by first | exact .own _ | exact .nil) rfl (by first | exact .sl _ | exact .own _ _ | exact .nil) T.sl22 T.sz35 (by decide) T.by35 T.zlen35 (by simp [chunks]; omega) (by simp [chunks]; omega) rfl ?_
        refine r_assign rfl rfl ?_
        refine awl_nil ?_
        refine x_then ?_
        refine awp_seq ?_
        refine awp_region ?_
        refine awl_imp (imp_le 9 (x := .a (entsA (takeF (fun _ _ => false) base ours theirs ++ ours))) rfl (.ownEq (by simp [chunks]))) ?_
        refine r_move rfl rfl ?_
        refine r_move rfl rfl ?_
        refine r_move rfl rfl ?_
        refine r_lit 44 (parts := [(0, .tmp 41), (1, .tmp 42), (2, .tmp 43)]) rfl T.sl44 T.sz22 T.zraw22 rfl rfl rfl rfl rfl rfl rfl ?_
        refine r_call0 hq rfl rfl (.cons (.ev rfl rfl) .nil) (rplaces_ok [base, ours, theirs] (by simp) (by simp; omega)) rfl T.en19 rfl (fun r hr => ?_)
        obtain ⟨pl, hpl⟩ : ∃ pl, pl = placesF [base, ours, theirs] := ⟨_, rfl⟩
        rw [← hpl] at hr
        obtain rfl := hr
        have hpll : pl.length ≤ 3000 := by rw [hpl]; have := places_len [base, ours, theirs]; simp at this; omega
        refine r_assign rfl rfl ?_
        refine awl_nil ?_
        refine x_then ?_
        refine awp_seq ?_
        refine awp_seq ?_
        refine awp_region ?_
        refine r_assign rfl rfl ?_
        refine awl_nil ?_
        refine x_then ?_
        refine awp_block ?_
        refine awp_loop (fun nn0 S => ∃ k : Nat, S = ⟨135, [(0, .a (entsA base)), (1, .a (entsA ours)), (2, .a (entsA theirs)), (8, .a (clasA (clashF (fun _ _ => false) base ours theirs))), (9, .a (entsA (takeF (fun _ _ => false) base ours theirs ++ ours))), (10, .a (plesA pl)), (11, .a (.v (.int .i64 ((k : Int)))))], []⟩ ∧ nn0 = pl.length - k ∧ (k ≤ pl.length)) (pl.length - (0)) ⟨135, [(0, .a (entsA base)), (1, .a (entsA ours)), (2, .a (entsA theirs)), (8, .a (clasA (clashF (fun _ _ => false) base ours theirs))), (9, .a (entsA (takeF (fun _ _ => false) base ours theirs ++ ours))), (10, .a (plesA pl)), (11, .a (.v (.int .i64 (((0) : Int)))))], []⟩ ⟨rfl, (Slots.cons rfl (by first | exact .refl _ | exact .nilOwn _ _ | exact .nilSl _ | exact .ownSl _ _ _  | exact SV.le.of_eq (by simp)) (Slots.cons rfl (by first | exact .refl _ | exact .nilOwn _ _ | exact .nilSl _ | exact .ownSl _ _ _  | exact SV.le.of_eq (by simp)) (Slots.cons rfl (by first | exact .refl _ | exact .nilOwn _ _ | exact .nilSl _ | exact .ownSl _ _ _  | exact SV.le.of_eq (by simp)) (Slots.cons rfl (by first | exact .refl _ | exact .nilOwn _ _ | exact .nilSl _ | exact .ownSl _ _ _  | exact SV.le.of_eq (by simp)) (Slots.cons rfl (by first | exact .refl _ | exact .nilOwn _ _ | exact .nilSl _ | exact .ownSl _ _ _  | exact SV.le.of_eq (by simp)) (Slots.cons rfl (by first | exact .refl _ | exact .nilOwn _ _ | exact .nilSl _ | exact .ownSl _ _ _  | exact SV.le.of_eq (by simp)) (Slots.cons rfl (by first | exact .refl _ | exact .nilOwn _ _ | exact .nilSl _ | exact .ownSl _ _ _  | exact SV.le.of_eq (by simp)) Slots.nil))))))), (by first | exact List.Sublist.refl _ | exact .cons_cons _ (.cons _ (.refl _)) | exact List.nil_sublist _ | exact .cons _ (.refl _) | exact .cons _ (.cons _ (.refl _)) | exact .cons _ (.cons _ (.cons _ (.refl _))) | exact .cons _ (.cons _ (.cons _ (.cons _ (.refl _)))) | exact .cons_cons _ (List.nil_sublist _))⟩ ⟨0, rfl, rfl, Nat.zero_le _⟩ ?_
        rintro nn0 _ ⟨k, rfl, rfl, hk⟩
        refine awp_seq ?_
        refine awp_seq ?_
        refine awp_region ?_
        refine r_move rfl rfl ?_
        refine r_move rfl rfl ?_
        first | (refine r_lenS rfl rfl T.sl22 rfl ?_) | (refine r_lenNil rfl T.sl22 rfl ?_)
        refine r_cmp rfl rfl rfl rfl ?_
        refine awl_nil ?_
        refine x_then ?_
        refine awp_cond rfl (fun hc3 => ?_) (fun hc3 => ?_)
        ·
          have hlt : k < pl.length := by have := of_decide_eq_true hc3; simpa using this
          obtain ⟨p, hp⟩ := get_lt hlt
          obtain ⟨hn1, hn2⟩ := now_eq base ours theirs p
          refine awp_skip ?_
          refine x_then ?_
          refine awp_seq ?_
          refine awp_block ?_
          refine awp_seq ?_
          refine awp_drawS [52, 53, 54, 55, 56, 57, 58, 59, 60, 61, 62, 63, 64, 65, 66, 67, 68, 69, 70, 71, 72, 73, 74, 75, 76, 77, 78, 79, 80, 81, 82, 83, 84, 85, 86] [_, _, _, _, _, _, _, _, _, _, _, _, _, _, _, _, _, _, _, _, _, _, _, _, _, _, _, _, _, _, _, _, _, _, _] [] [] T.mixed rfl rfl rfl ⟨⟨⟨⟨⟨⟨⟨⟨⟨⟨⟨⟨⟨⟨⟨⟨⟨⟨⟨⟨⟨⟨⟨⟨⟨⟨⟨⟨⟨⟨⟨⟨⟨⟨⟨trivial
            , ⟨_, rfl, fun sl hd hr ho => by
                refine r_move (hr 0 _ rfl rfl rfl) rfl ?_
                exact awl_nil ⟨rfl, post_put⟩⟩⟩
            , ⟨_, rfl, fun sl hd hr ho => by
                refine r_move (hr 10 _ rfl rfl rfl) rfl ?_
                exact awl_nil ⟨rfl, post_put⟩⟩⟩
            , ⟨_, rfl, fun sl hd hr ho => by
                refine r_move (hr 11 _ rfl rfl rfl) rfl ?_
                exact awl_nil ⟨rfl, post_put⟩⟩⟩
            , ⟨_, rfl, fun sl hd hr ho => by
                refine r_index (hd 1 _ rfl rfl rfl) rfl (hd 2 _ rfl rfl rfl) T.sl22 T.sz35 (by omega) (get_map hp) rfl ?_
                exact awl_nil ⟨rfl, post_put⟩⟩⟩
            , ⟨_, rfl, fun sl hd hr ho => by
                first | (refine r_fieldcp (hd 3 _ rfl rfl rfl) T.f35_0 T.sz3 rfl ?_) | (refine r_fieldb (hd 3 _ rfl rfl rfl) T.f35_0 T.sz3 rfl ?_)
                exact awl_nil ⟨rfl, post_put⟩⟩⟩
            , ⟨_, rfl, fun sl hd hr ho => by
                refine r_load1 (hd 4 _ rfl rfl rfl) T.agg3 rfl ?_
                exact awl_nil ⟨rfl, post_put⟩⟩⟩
            , ⟨_, rfl, fun sl hd hr ho => by
                refine r_move (hr 10 _ rfl rfl rfl) rfl ?_
                exact awl_nil ⟨rfl, post_put⟩⟩⟩
            , ⟨_, rfl, fun sl hd hr ho => by
                refine r_move (hr 11 _ rfl rfl rfl) rfl ?_
                exact awl_nil ⟨rfl, post_put⟩⟩⟩
            , ⟨_, rfl, fun sl hd hr ho => by
                refine r_index (hd 6 _ rfl rfl rfl) rfl (hd 7 _ rfl rfl rfl) T.sl22 T.sz35 (by omega) (get_map hp) rfl ?_
                exact awl_nil ⟨rfl, post_put⟩⟩⟩
            , ⟨_, rfl, fun sl hd hr ho => by
                first | (refine r_fieldcp (hd 8 _ rfl rfl rfl) T.f35_1 T.sz3 rfl ?_) | (refine r_fieldb (hd 8 _ rfl rfl rfl) T.f35_1 T.sz3 rfl ?_)
                exact awl_nil ⟨rfl, post_put⟩⟩⟩
            , ⟨_, rfl, fun sl hd hr ho => by
                refine r_load1 (hd 9 _ rfl rfl rfl) T.agg3 rfl ?_
                exact awl_nil ⟨rfl, post_put⟩⟩⟩
            , ⟨_, rfl, fun sl hd hr ho => by
                refine r_call0 hq rfl rfl (.cons (.ev (hd 0 _ rfl rfl rfl) rfl) (.cons (.ev (hd 5 _ rfl rfl rfl) rfl) (.cons (.ev (hd 10 _ rfl rfl rfl) rfl) .nil))) (shows_ok base p.1 p.2 (by omega)) rfl T.en20 rfl (fun r hr => ?_)
                obtain rfl := hr
                exact awl_nil ⟨rfl, post_put⟩⟩⟩
            , ⟨_, rfl, fun sl hd hr ho => by
                refine r_move (hr 1 _ rfl rfl rfl) rfl ?_
                exact awl_nil ⟨rfl, post_put⟩⟩⟩
            , ⟨_, rfl, fun sl hd hr ho => by
                refine r_move (hr 10 _ rfl rfl rfl) rfl ?_
                exact awl_nil ⟨rfl, post_put⟩⟩⟩
            , ⟨_, rfl, fun sl hd hr ho => by
                refine r_move (hr 11 _ rfl rfl rfl) rfl ?_
                exact awl_nil ⟨rfl, post_put⟩⟩⟩
            , ⟨_, rfl, fun sl hd hr ho => by
                refine r_index (hd 13 _ rfl rfl rfl) rfl (hd 14 _ rfl rfl rfl) T.sl22 T.sz35 (by omega) (get_map hp) rfl ?_
                exact awl_nil ⟨rfl, post_put⟩⟩⟩
            , ⟨_, rfl, fun sl hd hr ho => by
                first | (refine r_fieldcp (hd 15 _ rfl rfl rfl) T.f35_0 T.sz3 rfl ?_) | (refine r_fieldb (hd 15 _ rfl rfl rfl) T.f35_0 T.sz3 rfl ?_)
                exact awl_nil ⟨rfl, post_put⟩⟩⟩
            , ⟨_, rfl, fun sl hd hr ho => by
                refine r_load1 (hd 16 _ rfl rfl rfl) T.agg3 rfl ?_
                exact awl_nil ⟨rfl, post_put⟩⟩⟩
            , ⟨_, rfl, fun sl hd hr ho => by
                refine r_move (hr 10 _ rfl rfl rfl) rfl ?_
                exact awl_nil ⟨rfl, post_put⟩⟩⟩
            , ⟨_, rfl, fun sl hd hr ho => by
                refine r_move (hr 11 _ rfl rfl rfl) rfl ?_
                exact awl_nil ⟨rfl, post_put⟩⟩⟩
            , ⟨_, rfl, fun sl hd hr ho => by
                refine r_index (hd 18 _ rfl rfl rfl) rfl (hd 19 _ rfl rfl rfl) T.sl22 T.sz35 (by omega) (get_map hp) rfl ?_
                exact awl_nil ⟨rfl, post_put⟩⟩⟩
            , ⟨_, rfl, fun sl hd hr ho => by
                first | (refine r_fieldcp (hd 20 _ rfl rfl rfl) T.f35_1 T.sz3 rfl ?_) | (refine r_fieldb (hd 20 _ rfl rfl rfl) T.f35_1 T.sz3 rfl ?_)
                exact awl_nil ⟨rfl, post_put⟩⟩⟩
            , ⟨_, rfl, fun sl hd hr ho => by
                refine r_load1 (hd 21 _ rfl rfl rfl) T.agg3 rfl ?_
                exact awl_nil ⟨rfl, post_put⟩⟩⟩
            , ⟨_, rfl, fun sl hd hr ho => by
                refine r_call0 hq rfl rfl (.cons (.ev (hd 12 _ rfl rfl rfl) rfl) (.cons (.ev (hd 17 _ rfl rfl rfl) rfl) (.cons (.ev (hd 22 _ rfl rfl rfl) rfl) .nil))) (shows_ok ours p.1 p.2 (by omega)) rfl T.en20 rfl (fun r hr => ?_)
                obtain rfl := hr
                exact awl_nil ⟨rfl, post_put⟩⟩⟩
            , ⟨_, rfl, fun sl hd hr ho => by
                refine r_move (hr 2 _ rfl rfl rfl) rfl ?_
                exact awl_nil ⟨rfl, post_put⟩⟩⟩
            , ⟨_, rfl, fun sl hd hr ho => by
                refine r_move (hr 10 _ rfl rfl rfl) rfl ?_
                exact awl_nil ⟨rfl, post_put⟩⟩⟩
            , ⟨_, rfl, fun sl hd hr ho => by
                refine r_move (hr 11 _ rfl rfl rfl) rfl ?_
                exact awl_nil ⟨rfl, post_put⟩⟩⟩
            , ⟨_, rfl, fun sl hd hr ho => by
                refine r_index (hd 25 _ rfl rfl rfl) rfl (hd 26 _ rfl rfl rfl) T.sl22 T.sz35 (by omega) (get_map hp) rfl ?_
                exact awl_nil ⟨rfl, post_put⟩⟩⟩
            , ⟨_, rfl, fun sl hd hr ho => by
                first | (refine r_fieldcp (hd 27 _ rfl rfl rfl) T.f35_0 T.sz3 rfl ?_) | (refine r_fieldb (hd 27 _ rfl rfl rfl) T.f35_0 T.sz3 rfl ?_)
                exact awl_nil ⟨rfl, post_put⟩⟩⟩
            , ⟨_, rfl, fun sl hd hr ho => by
                refine r_load1 (hd 28 _ rfl rfl rfl) T.agg3 rfl ?_
                exact awl_nil ⟨rfl, post_put⟩⟩⟩
            , ⟨_, rfl, fun sl hd hr ho => by
                refine r_move (hr 10 _ rfl rfl rfl) rfl ?_
                exact awl_nil ⟨rfl, post_put⟩⟩⟩
            , ⟨_, rfl, fun sl hd hr ho => by
                refine r_move (hr 11 _ rfl rfl rfl) rfl ?_
                exact awl_nil ⟨rfl, post_put⟩⟩⟩
            , ⟨_, rfl, fun sl hd hr ho => by
                refine r_index (hd 30 _ rfl rfl rfl) rfl (hd 31 _ rfl rfl rfl) T.sl22 T.sz35 (by omega) (get_map hp) rfl ?_
                exact awl_nil ⟨rfl, post_put⟩⟩⟩
            , ⟨_, rfl, fun sl hd hr ho => by
                first | (refine r_fieldcp (hd 32 _ rfl rfl rfl) T.f35_1 T.sz3 rfl ?_) | (refine r_fieldb (hd 32 _ rfl rfl rfl) T.f35_1 T.sz3 rfl ?_)
                exact awl_nil ⟨rfl, post_put⟩⟩⟩
            , ⟨_, rfl, fun sl hd hr ho => by
                refine r_load1 (hd 33 _ rfl rfl rfl) T.agg3 rfl ?_
                exact awl_nil ⟨rfl, post_put⟩⟩⟩
            (by rfl) ?_
          refine r_call0 hq rfl rfl (.cons (.ev rfl rfl) (.cons (.ev rfl rfl) (.cons (.ev rfl rfl) .nil))) (shows_ok theirs p.1 p.2 (by omega)) rfl T.en20 rfl (fun r hr => ?_)
          obtain rfl := hr
          refine r_assign rfl rfl ?_
          refine r_assign rfl rfl ?_
          refine r_assign rfl rfl ?_
          refine awl_nil ?_
          refine x_then ?_
          refine awp_seq ?_
          refine awp_drawS [88, 89, 90, 91, 92, 93, 94, 95, 96, 97, 98] [_, _, _, _, _, _, _, _, _, _, _] [] [] T.mixed rfl rfl rfl ⟨⟨⟨⟨⟨⟨⟨⟨⟨⟨⟨trivial
            , ⟨_, rfl, fun sl hd hr ho => by
                refine r_move (hr 9 _ rfl rfl rfl) rfl ?_
                exact awl_nil ⟨rfl, post_put⟩⟩⟩
            , ⟨_, rfl, fun sl hd hr ho => by
                refine r_move (hr 10 _ rfl rfl rfl) rfl ?_
                exact awl_nil ⟨rfl, post_put⟩⟩⟩
            , ⟨_, rfl, fun sl hd hr ho => by
                refine r_move (hr 11 _ rfl rfl rfl) rfl ?_
                exact awl_nil ⟨rfl, post_put⟩⟩⟩
            , ⟨_, rfl, fun sl hd hr ho => by
                refine r_index (hd 1 _ rfl rfl rfl) rfl (hd 2 _ rfl rfl rfl) T.sl22 T.sz35 (by omega) (get_map hp) rfl ?_
                exact awl_nil ⟨rfl, post_put⟩⟩⟩
            , ⟨_, rfl, fun sl hd hr ho => by
                first | (refine r_fieldcp (hd 3 _ rfl rfl rfl) T.f35_0 T.sz3 rfl ?_) | (refine r_fieldb (hd 3 _ rfl rfl rfl) T.f35_0 T.sz3 rfl ?_)
                exact awl_nil ⟨rfl, post_put⟩⟩⟩
            , ⟨_, rfl, fun sl hd hr ho => by
                refine r_load1 (hd 4 _ rfl rfl rfl) T.agg3 rfl ?_
                exact awl_nil ⟨rfl, post_put⟩⟩⟩
            , ⟨_, rfl, fun sl hd hr ho => by
                refine r_move (hr 10 _ rfl rfl rfl) rfl ?_
                exact awl_nil ⟨rfl, post_put⟩⟩⟩
            , ⟨_, rfl, fun sl hd hr ho => by
                refine r_move (hr 11 _ rfl rfl rfl) rfl ?_
                exact awl_nil ⟨rfl, post_put⟩⟩⟩
            , ⟨_, rfl, fun sl hd hr ho => by
                refine r_index (hd 6 _ rfl rfl rfl) rfl (hd 7 _ rfl rfl rfl) T.sl22 T.sz35 (by omega) (get_map hp) rfl ?_
                exact awl_nil ⟨rfl, post_put⟩⟩⟩
            , ⟨_, rfl, fun sl hd hr ho => by
                first | (refine r_fieldcp (hd 8 _ rfl rfl rfl) T.f35_1 T.sz3 rfl ?_) | (refine r_fieldb (hd 8 _ rfl rfl rfl) T.f35_1 T.sz3 rfl ?_)
                exact awl_nil ⟨rfl, post_put⟩⟩⟩
            , ⟨_, rfl, fun sl hd hr ho => by
                refine r_load1 (hd 9 _ rfl rfl rfl) T.agg3 rfl ?_
                exact awl_nil ⟨rfl, post_put⟩⟩⟩
            (by rfl) ?_
          refine r_call0 hq rfl rfl (.cons (.ev rfl rfl) (.cons (.ev rfl rfl) (.cons (.ev rfl rfl) .nil))) (shows_ok (takeF (fun _ _ => false) base ours theirs ++ ours) p.1 p.2 (by simp; omega)) rfl T.en20 rfl (fun r hr => ?_)
          obtain rfl := hr
          refine r_assign rfl rfl ?_
          refine awl_nil ?_
          refine x_then ?_
          refine awp_seq ?_
          rcases Decidable.em (shows base p = shows ours p) with hbo | hbo
          ·
            have hnow := hn1 hbo
            refine awp_region ?_
            refine r_move rfl rfl ?_
            refine r_move rfl rfl ?_
            refine r_cmp rfl rfl rfl rfl ?_
            refine r_move rfl rfl ?_
            refine g_run rfl rfl (by simpa using hbo) ?_
            refine r_move rfl rfl ?_
            refine g_run rfl rfl (by simpa using hbo) ?_
            refine r_move rfl rfl ?_
            refine g_run rfl rfl (by simpa using hbo) ?_
            refine r_cmp rfl rfl rfl rfl ?_
            refine r_pickT rfl (by simpa using hbo) rfl rfl ?_
            refine r_move rfl rfl ?_
            refine g_run rfl rfl (by simpa using hnow) ?_
            refine r_move rfl rfl ?_
            refine g_run rfl rfl (by simpa using hnow) ?_
            refine r_move rfl rfl ?_
            refine g_run rfl rfl (by simpa using hnow) ?_
            refine r_cmp rfl rfl rfl rfl ?_
            refine g_run rfl rfl (by simpa using hnow) ?_
            refine r_move rfl rfl ?_
            refine g_skip rfl rfl (by simpa using hbo) rfl ?_
            refine g_skip rfl rfl (by simpa using hbo) rfl ?_
            refine g_skip rfl rfl (by simpa using hbo) rfl ?_
            refine g_run rfl rfl (by simpa using hnow) ?_
            refine r_pickF rfl (by simpa using hbo) rfl rfl ?_
            refine r_pickF rfl (by simpa using hnow) rfl rfl ?_
            refine awl_nil ?_
            refine x_then ?_
            refine awp_condF rfl ?_
            refine awp_skip ?_
            refine x_block ?_
            refine x_then ?_
            refine awp_region ?_
            refine r_move rfl rfl ?_
            refine r_ari _ rfl rfl rfl (wrap_id (by first | omega | (simp; omega))) rfl ?_
            refine r_assign rfl rfl ?_
            refine awl_nil ?_
            refine x_then ?_
            refine ⟨pl.length - (k + 1), ⟨135, [(0, .a (entsA base)), (1, .a (entsA ours)), (2, .a (entsA theirs)), (8, .a (clasA (clashF (fun _ _ => false) base ours theirs))), (9, .a (entsA (takeF (fun _ _ => false) base ours theirs ++ ours))), (10, .a (plesA pl)), (11, .a (.v (.int .i64 (((k + 1) : Int)))))], []⟩, ⟨rfl, (Slots.cons rfl (by first | exact .refl _ | exact .nilOwn _ _ | exact .nilSl _ | exact .ownSl _ _ _  | exact SV.le.of_eq (by simp)) (Slots.cons rfl (by first | exact .refl _ | exact .nilOwn _ _ | exact .nilSl _ | exact .ownSl _ _ _  | exact SV.le.of_eq (by simp)) (Slots.cons rfl (by first | exact .refl _ | exact .nilOwn _ _ | exact .nilSl _ | exact .ownSl _ _ _  | exact SV.le.of_eq (by simp)) (Slots.cons rfl (by first | exact .refl _ | exact .nilOwn _ _ | exact .nilSl _ | exact .ownSl _ _ _  | exact SV.le.of_eq (by simp)) (Slots.cons rfl (by first | exact .refl _ | exact .nilOwn _ _ | exact .nilSl _ | exact .ownSl _ _ _  | exact SV.le.of_eq (by simp)) (Slots.cons rfl (by first | exact .refl _ | exact .nilOwn _ _ | exact .nilSl _ | exact .ownSl _ _ _  | exact SV.le.of_eq (by simp)) (Slots.cons rfl (by first | exact .refl _ | exact .nilOwn _ _ | exact .nilSl _ | exact .ownSl _ _ _  | exact SV.le.of_eq (by simp)) Slots.nil))))))), (by first | exact List.Sublist.refl _ | exact .cons_cons _ (.cons _ (.refl _)) | exact List.nil_sublist _ | exact .cons _ (.refl _) | exact .cons _ (.cons _ (.refl _)) | exact .cons _ (.cons _ (.cons _ (.refl _))) | exact .cons _ (.cons _ (.cons _ (.cons _ (.refl _)))) | exact .cons_cons _ (List.nil_sublist _))⟩, (by omega), ⟨k + 1, rfl, rfl, (by have := (List.getElem?_eq_some_iff.1 hp).1; omega)⟩⟩
          ·
            have hnow := hn2 hbo
            refine awp_region ?_
            refine r_move rfl rfl ?_
            refine r_move rfl rfl ?_
            refine r_cmp rfl rfl rfl rfl ?_
            refine r_move rfl rfl ?_
            refine g_skip rfl rfl (by simpa using hbo) rfl ?_
            refine g_skip rfl rfl (by simpa using hbo) rfl ?_
            refine g_skip rfl rfl (by simpa using hbo) rfl ?_
            refine r_pickF rfl (by simpa using hbo) rfl rfl ?_
            refine r_move rfl rfl ?_
            refine g_run rfl rfl rfl ?_
            refine r_move rfl rfl ?_
            refine g_run rfl rfl rfl ?_
            refine r_move rfl rfl ?_
            refine g_run rfl rfl rfl ?_
            refine r_cmp rfl rfl rfl rfl ?_
            refine g_run rfl rfl rfl ?_
            refine r_move rfl rfl ?_
            refine g_run rfl rfl (by simpa using hbo) ?_
            refine r_move rfl rfl ?_
            refine g_run rfl rfl (by simpa using hbo) ?_
            refine r_move rfl rfl ?_
            refine g_run rfl rfl (by simpa using hbo) ?_
            refine r_cmp rfl rfl rfl rfl ?_
            refine g_run rfl rfl rfl ?_
            refine r_pickT rfl (by simpa using hbo) rfl rfl ?_
            refine r_pickF rfl rfl rfl rfl ?_
            refine awl_nil ?_
            refine x_then ?_
            refine awp_cond rfl (fun hc4 => ?_) (fun hc4 => ?_)
            ·
              exfalso; exact absurd hnow (by simpa using hc4)
            ·
              refine awp_skip ?_
              refine x_block ?_
              refine x_then ?_
              refine awp_region ?_
              refine r_move rfl rfl ?_
              refine r_ari _ rfl rfl rfl (wrap_id (by first | omega | (simp; omega))) rfl ?_
              refine r_assign rfl rfl ?_
              refine awl_nil ?_
              refine x_then ?_
              refine ⟨pl.length - (k + 1), ⟨135, [(0, .a (entsA base)), (1, .a (entsA ours)), (2, .a (entsA theirs)), (8, .a (clasA (clashF (fun _ _ => false) base ours theirs))), (9, .a (entsA (takeF (fun _ _ => false) base ours theirs ++ ours))), (10, .a (plesA pl)), (11, .a (.v (.int .i64 (((k + 1) : Int)))))], []⟩, ⟨rfl, (Slots.cons rfl (by first | exact .refl _ | exact .nilOwn _ _ | exact .nilSl _ | exact .ownSl _ _ _  | exact SV.le.of_eq (by simp)) (Slots.cons rfl (by first | exact .refl _ | exact .nilOwn _ _ | exact .nilSl _ | exact .ownSl _ _ _  | exact SV.le.of_eq (by simp)) (Slots.cons rfl (by first | exact .refl _ | exact .nilOwn _ _ | exact .nilSl _ | exact .ownSl _ _ _  | exact SV.le.of_eq (by simp)) (Slots.cons rfl (by first | exact .refl _ | exact .nilOwn _ _ | exact .nilSl _ | exact .ownSl _ _ _  | exact SV.le.of_eq (by simp)) (Slots.cons rfl (by first | exact .refl _ | exact .nilOwn _ _ | exact .nilSl _ | exact .ownSl _ _ _  | exact SV.le.of_eq (by simp)) (Slots.cons rfl (by first | exact .refl _ | exact .nilOwn _ _ | exact .nilSl _ | exact .ownSl _ _ _  | exact SV.le.of_eq (by simp)) (Slots.cons rfl (by first | exact .refl _ | exact .nilOwn _ _ | exact .nilSl _ | exact .ownSl _ _ _  | exact SV.le.of_eq (by simp)) Slots.nil))))))), (by first | exact List.Sublist.refl _ | exact .cons_cons _ (.cons _ (.refl _)) | exact List.nil_sublist _ | exact .cons _ (.refl _) | exact .cons _ (.cons _ (.refl _)) | exact .cons _ (.cons _ (.cons _ (.refl _))) | exact .cons _ (.cons _ (.cons _ (.cons _ (.refl _)))) | exact .cons_cons _ (List.nil_sublist _))⟩, (by omega), ⟨k + 1, rfl, rfl, (by have := (List.getElem?_eq_some_iff.1 hp).1; omega)⟩⟩
        ·
          refine awp_exit ?_
          refine x_thenE ?_
          refine x_thenE ?_
          refine x_blockE ?_
          refine x_then ?_
          refine awp_seq ?_
          refine awp_region ?_
          refine r_move rfl rfl ?_
          refine r_move rfl rfl ?_
          refine r_move rfl rfl ?_
          refine r_call0 hq rfl rfl (.cons (.ev rfl rfl) (.cons (.ev rfl rfl) (.cons (.ev rfl rfl) (.cons (.ev rfl rfl) .nil)))) (three_ok .nil base (takeF (fun _ _ => false) base ours theirs ++ ours) theirs (by omega) (by simp; omega) (by omega) hgb (over_good hgo hgt) hgt) rfl T.en13 rfl (fun r hr => ?_)
          obtain rfl := hr
          rw [again_nil, still_eq]
          refine r_move rfl rfl ?_
          refine r_extract rfl rfl rfl ?_
          refine r_extract rfl rfl rfl ?_
          refine r_assign rfl rfl ?_
          refine r_assign rfl rfl ?_
          refine awl_nil ?_
          refine x_then ?_
          refine awp_seq ?_
          refine awp_region ?_
          refine r_move rfl rfl ?_
          first | (refine r_lenS rfl rfl T.sl22 rfl ?_) | (refine r_lenNil rfl T.sl22 rfl ?_)
          refine r_cmp rfl rfl rfl rfl ?_
          refine r_move rfl rfl ?_
          refine g_run rfl rfl rfl ?_
          refine r_move rfl rfl ?_
          refine g_run rfl rfl rfl ?_
          first | (refine r_lenS rfl rfl T.sl26 rfl ?_) | (refine r_lenNil rfl T.sl26 rfl ?_)
          refine g_run rfl rfl rfl ?_
          refine r_move rfl rfl ?_
          refine g_run rfl rfl rfl ?_
          first | (refine r_lenS rfl rfl T.sl26 rfl ?_) | (refine r_lenNil rfl T.sl26 rfl ?_)
          refine g_run rfl rfl rfl ?_
          refine r_cmp rfl rfl rfl rfl ?_
          refine r_pickT rfl rfl rfl rfl ?_
          refine r_assign rfl rfl ?_
          refine awl_nil ?_
          refine x_then ?_
          refine awp_ret ?_
          exact ⟨(.inl rfl), _, [], (.one (by first | exact .mk rfl rfl | exact .nil rfl)), ⟨rfl, by simp [bA, SV.av]⟩, (List.nil_sublist _), (by simp)⟩

end Go.Proofs.Ytcgjgnkpebpimaa.A

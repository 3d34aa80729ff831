/- Layer 32: the statements' walks, the rest. -/
import Derived.Test.YtcgjgnkpebpimaaProg
import Derived.KernelRfl
import Derived.Test.YtcgjgnkpebpimaaX32H
namespace Go.Proofs.Ytcgjgnkpebpimaa.A
open Go Go.RowKit
set_option linter.unusedVariables false
set_option linter.unusedSimpArgs false
set_option maxRecDepth 100000

theorem T.en18 : entersT Try.prog 18 := enters_of Try.func18 (by kernel_rfl) (by kernel_rfl)
theorem T.f37_0 : fieldT Try.prog 37 0 = some (0, 3) := by kernel_rfl
theorem T.f37_1 : fieldT Try.prog 37 1 = some (1, 3) := by kernel_rfl
theorem T.f37_2 : fieldT Try.prog 37 2 = some (2, 23) := by kernel_rfl
theorem T.f37_4 : fieldT Try.prog 37 4 = some (4, 23) := by kernel_rfl
theorem T.f37_3 : fieldT Try.prog 37 3 = some (3, 23) := by kernel_rfl

set_option maxHeartbeats 1000000 in
theorem turned_law (base ours theirs : List Ent) (table : Int) (hgb : Good base) (hgo : Good ours) (hgt : Good theirs) : AC Try.prog 5 [entsA base, entsA ours, entsA theirs, numA table] [] (fun r n => n = [] ∧ r = bA true) := by
  refine ac_of_awp (rs := [8]) (nt := 162) Try.func5 rfl rfl rfl rfl (fun w0 C0 hq => ?_)
  refine awp_seq ?_
  refine awp_region ?_
  refine r_assign rfl rfl ?_
  refine awl_nil ?_
  refine x_then ?_
  refine awp_seq ?_
  refine awp_seq ?_
  refine awp_region ?_
  refine r_call0 hq rfl rfl .nil (awake_ok) rfl T.en11 rfl (fun r hr => ?_)
  obtain rfl := hr
  refine r_not rfl rfl ?_
  refine awl_nil ?_
  refine x_then ?_
  refine awp_cond rfl (fun hc0 => ?_) (fun hc0 => ?_)
  ·
    exfalso; exact absurd hc0 (by decide)
  ·
    refine awp_skip ?_
    refine x_then ?_
    refine awp_seq ?_
    refine awp_seq ?_
    refine awp_region ?_
    refine r_move rfl rfl ?_
    refine r_move rfl rfl ?_
    refine r_move rfl rfl ?_
    refine r_lit 22 (parts := [(0, .tmp 19), (1, .tmp 20), (2, .tmp 21)]) rfl T.sl44 T.sz22 T.zraw22 rfl rfl rfl rfl rfl rfl rfl ?_
    refine r_call0 hq rfl rfl (.cons (.ev rfl rfl) .nil) (great_ok [base, ours, theirs] (by simp)) rfl T.en12 rfl (fun r hr => ?_)
    rcases hr with rfl | ⟨rfl, hle⟩
    
    ·
      refine r_cmp rfl rfl rfl rfl ?_
      refine awl_nil ?_
      refine x_then ?_
      refine awp_condT rfl ?_
      refine awp_seq ?_
      refine awp_region ?_
      refine r_assign rfl rfl ?_
      refine awl_nil ?_
      refine x_then ?_
      refine awp_ret ?_
      refine x_thenR ?_
      exact ⟨(.inl rfl), _, [], (.one (by first | exact .mk rfl rfl | exact .nil rfl)), ⟨rfl, rfl⟩, (List.nil_sublist _), (by simp)⟩
    ·
      have hlbase : base.length ≤ 20 := hle base (by simp)
      have hlours : ours.length ≤ 20 := hle ours (by simp)
      have hltheirs : theirs.length ≤ 20 := hle theirs (by simp)
      refine r_cmp rfl rfl rfl rfl ?_
      refine awl_nil ?_
      refine x_then ?_
      refine awp_condF rfl ?_
      refine awp_skip ?_
      refine x_then ?_
      refine awp_seq ?_
      refine awp_region ?_
      refine r_move rfl rfl ?_
      refine r_move rfl rfl ?_
      refine r_move rfl rfl ?_
      refine r_move rfl rfl ?_
      refine r_call0 hq rfl rfl (.cons (.ev rfl rfl) .nil) (even_ok table) rfl T.en18 rfl (fun r hr => ?_)
      obtain rfl := hr
      refine r_call0 hq rfl rfl (.cons (.ev rfl rfl) (.cons (.ev rfl rfl) (.cons (.ev rfl rfl) (.cons (.ev rfl rfl) .nil)))) (three_ok (told_even table) base ours theirs (by omega) (by omega) (by omega) hgb hgo hgt) rfl T.en13 rfl (fun r hr => ?_)
      obtain rfl := hr
      refine r_move rfl rfl ?_
      refine r_extract rfl rfl rfl ?_
      refine r_extract rfl rfl rfl ?_
      refine r_assign rfl rfl ?_
      refine r_assign rfl rfl ?_
      refine awl_nil ?_
      refine x_then ?_
      refine awp_seq ?_
      refine awp_region ?_
      refine r_move rfl rfl ?_
      refine r_move rfl rfl ?_
      refine r_move rfl rfl ?_
      refine r_move rfl rfl ?_
      refine r_call0 hq rfl rfl (.cons (.ev rfl rfl) .nil) (even_ok table) rfl T.en18 rfl (fun r hr => ?_)
      obtain rfl := hr
      refine r_call0 hq rfl rfl (.cons (.ev rfl rfl) (.cons (.ev rfl rfl) (.cons (.ev rfl rfl) (.cons (.ev rfl rfl) .nil)))) (three_ok (told_even table) base theirs ours (by omega) (by omega) (by omega) hgb hgt hgo) rfl T.en13 rfl (fun r hr => ?_)
      obtain rfl := hr
      rw [clash_turn (evenF_comm table) base ours theirs]
      have hsum : (takeF (evenF table) base ours theirs).length + (takeF (evenF table) base theirs ours).length + (clashF (evenF table) base ours theirs).length ≤ 60 := by
        have h1 := turned_sum (evenF table) base ours theirs
        have h2 := places_len [base, ours, theirs]
        simp at h2; omega
      have hap1 : ∀ e ∈ (takeF (evenF table) base ours theirs), ∀ f ∈ (takeF (evenF table) base theirs ours), ¬ e.pl = f.pl := fun e he f hf => take_apart he hf
      have hap2 : ∀ e ∈ (takeF (evenF table) base ours theirs), ∀ c ∈ (clashF (evenF table) base ours theirs), ¬ e.pl = (c.vol, c.blk) := fun e he c hc => clash_apart he hc
      generalize (takeF (evenF table) base ours theirs) = ts at hsum hap1 hap2 ⊢
      generalize (takeF (evenF table) base theirs ours) = us at hsum hap1 ⊢
      generalize (clashF (evenF table) base ours theirs) = cs at hsum hap2 ⊢
      refine r_move rfl rfl ?_
      refine r_extract rfl rfl rfl ?_
      refine r_extract rfl rfl rfl ?_
      refine r_assign rfl rfl ?_
      refine r_assign rfl rfl ?_
      refine awl_nil ?_
      refine x_then ?_
      refine awp_seq ?_
      refine awp_seq ?_
      refine awp_region ?_
      refine r_move rfl rfl ?_
      first | (refine r_lenS rfl rfl T.sl26 rfl ?_) | (refine r_lenNil rfl T.sl26 rfl ?_)
      refine r_move rfl rfl ?_
      first | (refine r_lenS rfl rfl T.sl26 rfl ?_) | (refine r_lenNil rfl T.sl26 rfl ?_)
      refine r_cmp rfl rfl rfl rfl ?_
      refine r_move rfl rfl ?_
      refine g_run rfl rfl (by simp) ?_
      refine r_move rfl rfl ?_
      refine g_run rfl rfl (by simp) ?_
      first | (refine r_lenS rfl rfl T.sl22 rfl ?_) | (refine r_lenNil rfl T.sl22 rfl ?_)
      refine g_run rfl rfl (by simp) ?_
      refine r_move rfl rfl ?_
      refine g_run rfl rfl (by simp) ?_
      first | (refine r_lenS rfl rfl T.sl22 rfl ?_) | (refine r_lenNil rfl T.sl22 rfl ?_)
      refine g_run rfl rfl (by simp) ?_
      refine r_ari _ rfl rfl rfl (wrap_id (by first | omega | (simp; omega))) rfl ?_
      refine g_run rfl rfl (by simp) ?_
      refine r_move rfl rfl ?_
      refine g_run rfl rfl (by simp) ?_
      first | (refine r_lenS rfl rfl T.sl26 rfl ?_) | (refine r_lenNil rfl T.sl26 rfl ?_)
      refine g_run rfl rfl (by simp) ?_
      refine r_ari _ rfl rfl rfl (wrap_id (by first | omega | (simp; omega))) rfl ?_
      refine g_run rfl rfl (by simp) ?_
      refine r_cmp rfl rfl rfl rfl ?_
      refine r_pickF rfl (by simp) rfl rfl ?_
      refine awl_nil ?_
      refine x_then ?_
      refine awp_cond rfl (fun hc2 => ?_) (fun hc2 => ?_)
      ·
        exfalso; have := of_decide_eq_true hc2; simp at this; omega
      ·
        refine awp_skip ?_
        refine x_then ?_
        refine awp_seq ?_
        refine awp_seq ?_
        refine awp_region ?_
        refine r_assign rfl rfl ?_
        refine awl_nil ?_
        refine x_then ?_
        refine awp_block ?_
        refine awp_loop (fun nn0 S => ∃ k : Nat, S = ⟨162, [(9, .a (entsA ts)), (10, .a (clasA cs)), (11, .a (entsA us)), (12, .a (clasA (cs.map Cla.turn))), (13, .a (.v (.int .i64 ((k : Int)))))], []⟩ ∧ nn0 = cs.length - k ∧ (k ≤ cs.length)) (cs.length - (0)) ⟨162, [(9, .a (entsA ts)), (10, .a (clasA cs)), (11, .a (entsA us)), (12, .a (clasA (cs.map Cla.turn))), (13, .a (.v (.int .i64 (((0) : Int)))))], []⟩ ⟨rfl, (Slots.cons rfl (by first | exact .refl _ | exact .nilOwn _ _ | exact .nilSl _ | exact .ownSl _ _ _  | exact SV.le.of_eq (by simp)) (Slots.cons rfl (by first | exact .refl _ | exact .nilOwn _ _ | exact .nilSl _ | exact .ownSl _ _ _  | exact SV.le.of_eq (by simp)) (Slots.cons rfl (by first | exact .refl _ | exact .nilOwn _ _ | exact .nilSl _ | exact .ownSl _ _ _  | exact SV.le.of_eq (by simp)) (Slots.cons rfl (by first | exact .refl _ | exact .nilOwn _ _ | exact .nilSl _ | exact .ownSl _ _ _  | exact SV.le.of_eq (by simp)) (Slots.cons rfl (by first | exact .refl _ | exact .nilOwn _ _ | exact .nilSl _ | exact .ownSl _ _ _  | exact SV.le.of_eq (by simp)) Slots.nil))))), (by first | exact List.Sublist.refl _ | exact .cons_cons _ (.cons _ (.refl _)) | exact List.nil_sublist _ | exact .cons _ (.refl _) | exact .cons _ (.cons _ (.refl _)) | exact .cons _ (.cons _ (.cons _ (.refl _))) | exact .cons _ (.cons _ (.cons _ (.cons _ (.refl _)))) | exact .cons_cons _ (List.nil_sublist _))⟩ ⟨0, rfl, rfl, Nat.zero_le _⟩ ?_
        rintro nn0 _ ⟨k, rfl, rfl, hk⟩
        refine awp_seq ?_
        refine awp_seq ?_
        refine awp_region ?_
        refine r_move rfl rfl ?_
        refine r_move rfl rfl ?_
        first | (refine r_lenS rfl rfl T.sl26 rfl ?_) | (refine r_lenNil rfl T.sl26 rfl ?_)
        refine r_cmp rfl rfl rfl rfl ?_
        refine awl_nil ?_
        refine x_then ?_
        refine awp_cond rfl (fun hc3 => ?_) (fun hc3 => ?_)
        ·
          have hltx : k < cs.length := by have := of_decide_eq_true hc3; simpa using this
          obtain ⟨x, hx⟩ := get_lt hltx
          have hxt : (cs.map Cla.turn)[k]? = some x.turn := by simp [hx]
          refine awp_skip ?_
          refine x_then ?_
          refine awp_seq ?_
          refine awp_block ?_
          refine awp_seq ?_
          refine awp_drawS [65, 66, 67, 68, 69, 70, 71, 72, 73, 74, 75, 76, 77, 78, 79, 80, 81, 82, 83, 84, 85, 86, 87, 88, 89, 90, 91, 92, 93, 94] [_, _, _, _, _, _, _, _, _, _, _, _, _, _, _, _, _, _, _, _, _, _, _, _, _, _, _, _, _, _] [] [] T.mixed rfl rfl rfl ⟨⟨⟨⟨⟨⟨⟨⟨⟨⟨⟨⟨⟨⟨⟨⟨⟨⟨⟨⟨⟨⟨⟨⟨⟨⟨⟨⟨⟨⟨trivial
            , ⟨_, rfl, fun sl hd hr ho => by
                refine r_move (hr 12 _ rfl rfl rfl) rfl ?_
                exact awl_nil ⟨rfl, post_put⟩⟩⟩
            , ⟨_, rfl, fun sl hd hr ho => by
                refine r_move (hr 13 _ rfl rfl rfl) rfl ?_
                exact awl_nil ⟨rfl, post_put⟩⟩⟩
            , ⟨_, rfl, fun sl hd hr ho => by
                refine r_index (hd 0 _ rfl rfl rfl) rfl (hd 1 _ rfl rfl rfl) T.sl26 T.sz37 (by omega) (get_map hxt) rfl ?_
                exact awl_nil ⟨rfl, post_put⟩⟩⟩
            , ⟨_, rfl, fun sl hd hr ho => by
                refine r_loadA (hd 2 _ rfl rfl rfl) T.agg37 T.sz37 rfl rfl ?_
                exact awl_nil ⟨rfl, post_put⟩⟩⟩
            , ⟨_, rfl, fun sl hd hr ho => by
                refine r_move (hr 10 _ rfl rfl rfl) rfl ?_
                exact awl_nil ⟨rfl, post_put⟩⟩⟩
            , ⟨_, rfl, fun sl hd hr ho => by
                refine r_move (hr 13 _ rfl rfl rfl) rfl ?_
                exact awl_nil ⟨rfl, post_put⟩⟩⟩
            , ⟨_, rfl, fun sl hd hr ho => by
                refine r_index (hd 4 _ rfl rfl rfl) rfl (hd 5 _ rfl rfl rfl) T.sl26 T.sz37 (by omega) (get_map hx) rfl ?_
                exact awl_nil ⟨rfl, post_put⟩⟩⟩
            , ⟨_, rfl, fun sl hd hr ho => by
                first | (refine r_fieldcp (hd 6 _ rfl rfl rfl) T.f37_0 T.sz3 rfl ?_) | (refine r_fieldb (hd 6 _ rfl rfl rfl) T.f37_0 T.sz3 rfl ?_)
                exact awl_nil ⟨rfl, post_put⟩⟩⟩
            , ⟨_, rfl, fun sl hd hr ho => by
                refine r_load1 (hd 7 _ rfl rfl rfl) T.agg3 rfl ?_
                exact awl_nil ⟨rfl, post_put⟩⟩⟩
            , ⟨_, rfl, fun sl hd hr ho => by
                refine r_move (hr 10 _ rfl rfl rfl) rfl ?_
                exact awl_nil ⟨rfl, post_put⟩⟩⟩
            , ⟨_, rfl, fun sl hd hr ho => by
                refine r_move (hr 13 _ rfl rfl rfl) rfl ?_
                exact awl_nil ⟨rfl, post_put⟩⟩⟩
            , ⟨_, rfl, fun sl hd hr ho => by
                refine r_index (hd 9 _ rfl rfl rfl) rfl (hd 10 _ rfl rfl rfl) T.sl26 T.sz37 (by omega) (get_map hx) rfl ?_
                exact awl_nil ⟨rfl, post_put⟩⟩⟩
            , ⟨_, rfl, fun sl hd hr ho => by
                first | (refine r_fieldcp (hd 11 _ rfl rfl rfl) T.f37_1 T.sz3 rfl ?_) | (refine r_fieldb (hd 11 _ rfl rfl rfl) T.f37_1 T.sz3 rfl ?_)
                exact awl_nil ⟨rfl, post_put⟩⟩⟩
            , ⟨_, rfl, fun sl hd hr ho => by
                refine r_load1 (hd 12 _ rfl rfl rfl) T.agg3 rfl ?_
                exact awl_nil ⟨rfl, post_put⟩⟩⟩
            , ⟨_, rfl, fun sl hd hr ho => by
                refine r_move (hr 10 _ rfl rfl rfl) rfl ?_
                exact awl_nil ⟨rfl, post_put⟩⟩⟩
            , ⟨_, rfl, fun sl hd hr ho => by
                refine r_move (hr 13 _ rfl rfl rfl) rfl ?_
                exact awl_nil ⟨rfl, post_put⟩⟩⟩
            , ⟨_, rfl, fun sl hd hr ho => by
                refine r_index (hd 14 _ rfl rfl rfl) rfl (hd 15 _ rfl rfl rfl) T.sl26 T.sz37 (by omega) (get_map hx) rfl ?_
                exact awl_nil ⟨rfl, post_put⟩⟩⟩
            , ⟨_, rfl, fun sl hd hr ho => by
                first | (refine r_fieldcp (hd 16 _ rfl rfl rfl) T.f37_2 T.sz23 rfl ?_) | (refine r_fieldb (hd 16 _ rfl rfl rfl) T.f37_2 T.sz23 rfl ?_)
                exact awl_nil ⟨rfl, post_put⟩⟩⟩
            , ⟨_, rfl, fun sl hd hr ho => by
                refine r_load1 (hd 17 _ rfl rfl rfl) T.agg23 rfl ?_
                exact awl_nil ⟨rfl, post_put⟩⟩⟩
            , ⟨_, rfl, fun sl hd hr ho => by
                refine r_move (hr 10 _ rfl rfl rfl) rfl ?_
                exact awl_nil ⟨rfl, post_put⟩⟩⟩
            , ⟨_, rfl, fun sl hd hr ho => by
                refine r_move (hr 13 _ rfl rfl rfl) rfl ?_
                exact awl_nil ⟨rfl, post_put⟩⟩⟩
            , ⟨_, rfl, fun sl hd hr ho => by
                refine r_index (hd 19 _ rfl rfl rfl) rfl (hd 20 _ rfl rfl rfl) T.sl26 T.sz37 (by omega) (get_map hx) rfl ?_
                exact awl_nil ⟨rfl, post_put⟩⟩⟩
            , ⟨_, rfl, fun sl hd hr ho => by
                first | (refine r_fieldcp (hd 21 _ rfl rfl rfl) T.f37_4 T.sz23 rfl ?_) | (refine r_fieldb (hd 21 _ rfl rfl rfl) T.f37_4 T.sz23 rfl ?_)
                exact awl_nil ⟨rfl, post_put⟩⟩⟩
            , ⟨_, rfl, fun sl hd hr ho => by
                refine r_load1 (hd 22 _ rfl rfl rfl) T.agg23 rfl ?_
                exact awl_nil ⟨rfl, post_put⟩⟩⟩
            , ⟨_, rfl, fun sl hd hr ho => by
                refine r_move (hr 10 _ rfl rfl rfl) rfl ?_
                exact awl_nil ⟨rfl, post_put⟩⟩⟩
            , ⟨_, rfl, fun sl hd hr ho => by
                refine r_move (hr 13 _ rfl rfl rfl) rfl ?_
                exact awl_nil ⟨rfl, post_put⟩⟩⟩
            , ⟨_, rfl, fun sl hd hr ho => by
                refine r_index (hd 24 _ rfl rfl rfl) rfl (hd 25 _ rfl rfl rfl) T.sl26 T.sz37 (by omega) (get_map hx) rfl ?_
                exact awl_nil ⟨rfl, post_put⟩⟩⟩
            , ⟨_, rfl, fun sl hd hr ho => by
                first | (refine r_fieldcp (hd 26 _ rfl rfl rfl) T.f37_3 T.sz23 rfl ?_) | (refine r_fieldb (hd 26 _ rfl rfl rfl) T.f37_3 T.sz23 rfl ?_)
                exact awl_nil ⟨rfl, post_put⟩⟩⟩
            , ⟨_, rfl, fun sl hd hr ho => by
                refine r_load1 (hd 27 _ rfl rfl rfl) T.agg23 rfl ?_
                exact awl_nil ⟨rfl, post_put⟩⟩⟩
            , ⟨_, rfl, fun sl hd hr ho => by
                refine r_build (parts := [(0, .tmp 73), (1, .tmp 78), (2, .tmp 83), (3, .tmp 88), (4, .tmp 93)]) rfl T.pl37 T.zero37 (parts_cons (hd 8 _ rfl rfl rfl) (parts_cons (hd 13 _ rfl rfl rfl) (parts_cons (hd 18 _ rfl rfl rfl) (parts_cons (hd 23 _ rfl rfl rfl) (parts_cons (hd 28 _ rfl rfl rfl) parts_nil))))) rfl rfl ?_
                exact awl_nil ⟨rfl, post_put⟩⟩⟩
            (by rfl) ?_
          refine r_sne (us := (Cla.ns x.turn)) (vs := (Cla.ns x.turn)) rfl rfl T.mix37 (isVal_cells rfl) (isVal_cells rfl) rfl rfl rfl ?_
          refine awl_nil ?_
          refine x_then ?_
          refine awp_cond rfl (fun hc4 => ?_) (fun hc4 => ?_)
          ·
            exfalso; simp at hc4
          ·
            refine awp_skip ?_
            refine x_block ?_
            refine x_then ?_
            refine awp_region ?_
            refine r_move rfl rfl ?_
            refine r_ari _ rfl rfl rfl (wrap_id (by first | omega | (simp; omega))) rfl ?_
            refine r_assign rfl rfl ?_
            refine awl_nil ?_
            refine x_then ?_
            refine ⟨cs.length - (k + 1), ⟨162, [(9, .a (entsA ts)), (10, .a (clasA cs)), (11, .a (entsA us)), (12, .a (clasA (cs.map Cla.turn))), (13, .a (.v (.int .i64 (((k + 1) : Int)))))], []⟩, ⟨rfl, (Slots.cons rfl (by first | exact .refl _ | exact .nilOwn _ _ | exact .nilSl _ | exact .ownSl _ _ _  | exact SV.le.of_eq (by simp)) (Slots.cons rfl (by first | exact .refl _ | exact .nilOwn _ _ | exact .nilSl _ | exact .ownSl _ _ _  | exact SV.le.of_eq (by simp)) (Slots.cons rfl (by first | exact .refl _ | exact .nilOwn _ _ | exact .nilSl _ | exact .ownSl _ _ _  | exact SV.le.of_eq (by simp)) (Slots.cons rfl (by first | exact .refl _ | exact .nilOwn _ _ | exact .nilSl _ | exact .ownSl _ _ _  | exact SV.le.of_eq (by simp)) (Slots.cons rfl (by first | exact .refl _ | exact .nilOwn _ _ | exact .nilSl _ | exact .ownSl _ _ _  | exact SV.le.of_eq (by simp)) Slots.nil))))), (by first | exact List.Sublist.refl _ | exact .cons_cons _ (.cons _ (.refl _)) | exact List.nil_sublist _ | exact .cons _ (.refl _) | exact .cons _ (.cons _ (.refl _)) | exact .cons _ (.cons _ (.cons _ (.refl _))) | exact .cons _ (.cons _ (.cons _ (.cons _ (.refl _)))) | exact .cons_cons _ (List.nil_sublist _))⟩, (by omega), ⟨k + 1, rfl, rfl, (by have := (List.getElem?_eq_some_iff.1 hx).1; omega)⟩⟩
        ·
          refine awp_exit ?_
          refine x_thenE ?_
          refine x_thenE ?_
          refine x_blockE ?_
          refine x_then ?_
          refine awp_seq ?_
          refine awp_seq ?_
          refine awp_region ?_
          refine r_assign rfl rfl ?_
          refine awl_nil ?_
          refine x_then ?_
          refine awp_block ?_
          refine awp_loop (fun nn0 S => ∃ k : Nat, S = ⟨162, [(9, .a (entsA ts)), (10, .a (clasA cs)), (11, .a (entsA us)), (14, .a (.v (.int .i64 ((k : Int)))))], []⟩ ∧ nn0 = ts.length - k ∧ (k ≤ ts.length)) (ts.length - (0)) ⟨162, [(9, .a (entsA ts)), (10, .a (clasA cs)), (11, .a (entsA us)), (14, .a (.v (.int .i64 (((0) : Int)))))], []⟩ ⟨rfl, (Slots.cons rfl (by first | exact .refl _ | exact .nilOwn _ _ | exact .nilSl _ | exact .ownSl _ _ _  | exact SV.le.of_eq (by simp)) (Slots.cons rfl (by first | exact .refl _ | exact .nilOwn _ _ | exact .nilSl _ | exact .ownSl _ _ _  | exact SV.le.of_eq (by simp)) (Slots.cons rfl (by first | exact .refl _ | exact .nilOwn _ _ | exact .nilSl _ | exact .ownSl _ _ _  | exact SV.le.of_eq (by simp)) (Slots.cons rfl (by first | exact .refl _ | exact .nilOwn _ _ | exact .nilSl _ | exact .ownSl _ _ _  | exact SV.le.of_eq (by simp)) Slots.nil)))), (by first | exact List.Sublist.refl _ | exact .cons_cons _ (.cons _ (.refl _)) | exact List.nil_sublist _ | exact .cons _ (.refl _) | exact .cons _ (.cons _ (.refl _)) | exact .cons _ (.cons _ (.cons _ (.refl _))) | exact .cons _ (.cons _ (.cons _ (.cons _ (.refl _)))) | exact .cons_cons _ (List.nil_sublist _))⟩ ⟨0, rfl, rfl, Nat.zero_le _⟩ ?_
          rintro nn0 _ ⟨k, rfl, rfl, hk⟩
          refine awp_seq ?_
          refine awp_seq ?_
          refine awp_region ?_
          refine r_move rfl rfl ?_
          refine r_move rfl rfl ?_
          first | (refine r_lenS rfl rfl T.sl22 rfl ?_) | (refine r_lenNil rfl T.sl22 rfl ?_)
          refine r_cmp rfl rfl rfl rfl ?_
          refine awl_nil ?_
          refine x_then ?_
          refine awp_cond rfl (fun hc5 => ?_) (fun hc5 => ?_)
          ·
            have hltx : k < ts.length := by have := of_decide_eq_true hc5; simpa using this
            obtain ⟨x, hx⟩ := get_lt hltx
            refine awp_skip ?_
            refine x_then ?_
            refine awp_seq ?_
            refine awp_block ?_
            refine awp_seq ?_
            refine awp_seq ?_
            refine awp_region ?_
            refine r_assign rfl rfl ?_
            refine awl_nil ?_
            refine x_then ?_
            refine awp_block ?_
            refine awp_loop (fun nn0 S => ∃ j : Nat, S = ⟨162, [(9, .a (entsA ts)), (10, .a (clasA cs)), (11, .a (entsA us)), (14, .a (.v (.int .i64 ((k : Int))))), (15, .a (.v (.int .i64 ((j : Int)))))], []⟩ ∧ nn0 = us.length - j ∧ (j ≤ us.length)) (us.length - (0)) ⟨162, [(9, .a (entsA ts)), (10, .a (clasA cs)), (11, .a (entsA us)), (14, .a (.v (.int .i64 ((k : Int))))), (15, .a (.v (.int .i64 (((0) : Int)))))], []⟩ ⟨rfl, (Slots.cons rfl (by first | exact .refl _ | exact .nilOwn _ _ | exact .nilSl _ | exact .ownSl _ _ _  | exact SV.le.of_eq (by simp)) (Slots.cons rfl (by first | exact .refl _ | exact .nilOwn _ _ | exact .nilSl _ | exact .ownSl _ _ _  | exact SV.le.of_eq (by simp)) (Slots.cons rfl (by first | exact .refl _ | exact .nilOwn _ _ | exact .nilSl _ | exact .ownSl _ _ _  | exact SV.le.of_eq (by simp)) (Slots.cons rfl (by first | exact .refl _ | exact .nilOwn _ _ | exact .nilSl _ | exact .ownSl _ _ _  | exact SV.le.of_eq (by simp)) (Slots.cons rfl (by first | exact .refl _ | exact .nilOwn _ _ | exact .nilSl _ | exact .ownSl _ _ _  | exact SV.le.of_eq (by simp)) Slots.nil))))), (by first | exact List.Sublist.refl _ | exact .cons_cons _ (.cons _ (.refl _)) | exact List.nil_sublist _ | exact .cons _ (.refl _) | exact .cons _ (.cons _ (.refl _)) | exact .cons _ (.cons _ (.cons _ (.refl _))) | exact .cons _ (.cons _ (.cons _ (.cons _ (.refl _)))) | exact .cons_cons _ (List.nil_sublist _))⟩ ⟨0, rfl, rfl, Nat.zero_le _⟩ ?_
            rintro nn0 _ ⟨j, rfl, rfl, hj⟩
            refine awp_seq ?_
            refine awp_seq ?_
            refine awp_region ?_
            refine r_move rfl rfl ?_
            refine r_move rfl rfl ?_
            first | (refine r_lenS rfl rfl T.sl22 rfl ?_) | (refine r_lenNil rfl T.sl22 rfl ?_)
            refine r_cmp rfl rfl rfl rfl ?_
            refine awl_nil ?_
            refine x_then ?_
            refine awp_cond rfl (fun hc6 => ?_) (fun hc6 => ?_)
            ·
              have hlty : j < us.length := by have := of_decide_eq_true hc6; simpa using this
              obtain ⟨y, hy⟩ := get_lt hlty
              refine awp_skip ?_
              refine x_then ?_
              refine awp_seq ?_
              refine awp_block ?_
              refine awp_seq ?_
              rcases Bool.eq_false_or_eq_true (x.vol == y.vol) with hg119 | hg119
              ·
                refine awp_drawS [108, 109, 110, 111, 112, 113, 114, 115, 116, 117, 118, 119, 120, 121, 122, 123, 124, 125, 126, 127, 128, 129] [_, _, _, _, _, _, _, _, _, _, _, _, _, _, _, _, _, _, _, _, _, _] [] [] T.mixed rfl rfl rfl ⟨⟨⟨⟨⟨⟨⟨⟨⟨⟨⟨⟨⟨⟨⟨⟨⟨⟨⟨⟨⟨⟨trivial
                  , ⟨_, rfl, fun sl hd hr ho => by
                      refine r_move (hr 9 _ rfl rfl rfl) rfl ?_
                      exact awl_nil ⟨rfl, post_put⟩⟩⟩
                  , ⟨_, rfl, fun sl hd hr ho => by
                      refine r_move (hr 14 _ rfl rfl rfl) rfl ?_
                      exact awl_nil ⟨rfl, post_put⟩⟩⟩
                  , ⟨_, rfl, fun sl hd hr ho => by
                      refine r_index (hd 0 _ rfl rfl rfl) rfl (hd 1 _ rfl rfl rfl) T.sl22 T.sz35 (by omega) (get_map hx) rfl ?_
                      exact awl_nil ⟨rfl, post_put⟩⟩⟩
                  , ⟨_, rfl, fun sl hd hr ho => by
                      first | (refine r_fieldcp (hd 2 _ rfl rfl rfl) T.f35_0 T.sz3 rfl ?_) | (refine r_fieldb (hd 2 _ rfl rfl rfl) T.f35_0 T.sz3 rfl ?_)
                      exact awl_nil ⟨rfl, post_put⟩⟩⟩
                  , ⟨_, rfl, fun sl hd hr ho => by
                      refine r_load1 (hd 3 _ rfl rfl rfl) T.agg3 rfl ?_
                      exact awl_nil ⟨rfl, post_put⟩⟩⟩
                  , ⟨_, rfl, fun sl hd hr ho => by
                      refine r_move (hr 11 _ rfl rfl rfl) rfl ?_
                      exact awl_nil ⟨rfl, post_put⟩⟩⟩
                  , ⟨_, rfl, fun sl hd hr ho => by
                      refine r_move (hr 15 _ rfl rfl rfl) rfl ?_
                      exact awl_nil ⟨rfl, post_put⟩⟩⟩
                  , ⟨_, rfl, fun sl hd hr ho => by
                      refine r_index (hd 5 _ rfl rfl rfl) rfl (hd 6 _ rfl rfl rfl) T.sl22 T.sz35 (by omega) (get_map hy) rfl ?_
                      exact awl_nil ⟨rfl, post_put⟩⟩⟩
                  , ⟨_, rfl, fun sl hd hr ho => by
                      first | (refine r_fieldcp (hd 7 _ rfl rfl rfl) T.f35_0 T.sz3 rfl ?_) | (refine r_fieldb (hd 7 _ rfl rfl rfl) T.f35_0 T.sz3 rfl ?_)
                      exact awl_nil ⟨rfl, post_put⟩⟩⟩
                  , ⟨_, rfl, fun sl hd hr ho => by
                      refine r_load1 (hd 8 _ rfl rfl rfl) T.agg3 rfl ?_
                      exact awl_nil ⟨rfl, post_put⟩⟩⟩
                  , ⟨_, rfl, fun sl hd hr ho => by
                      refine r_cmp (hd 4 _ rfl rfl rfl) (hd 9 _ rfl rfl rfl) rfl rfl ?_
                      exact awl_nil ⟨rfl, post_put⟩⟩⟩
                  , ⟨_, rfl, fun sl hd hr ho => by
                      refine r_move (hd 10 _ rfl rfl rfl) rfl ?_
                      exact awl_nil ⟨rfl, post_put⟩⟩⟩
                  , ⟨_, rfl, fun sl hd hr ho => by
                      refine g_run rfl (hd 11 _ rfl rfl rfl) hg119 ?_
                      refine r_move (hr 9 _ rfl rfl rfl) rfl ?_
                      exact awl_nil ⟨rfl, post_put⟩⟩⟩
                  , ⟨_, rfl, fun sl hd hr ho => by
                      refine g_run rfl (hd 11 _ rfl rfl rfl) hg119 ?_
                      refine r_move (hr 14 _ rfl rfl rfl) rfl ?_
                      exact awl_nil ⟨rfl, post_put⟩⟩⟩
                  , ⟨_, rfl, fun sl hd hr ho => by
                      refine g_run rfl (hd 11 _ rfl rfl rfl) hg119 ?_
                      refine r_index (hd 12 _ rfl rfl rfl) rfl (hd 13 _ rfl rfl rfl) T.sl22 T.sz35 (by omega) (get_map hx) rfl ?_
                      exact awl_nil ⟨rfl, post_put⟩⟩⟩
                  , ⟨_, rfl, fun sl hd hr ho => by
                      refine g_run rfl (hd 11 _ rfl rfl rfl) hg119 ?_
                      first | (refine r_fieldcp (hd 14 _ rfl rfl rfl) T.f35_1 T.sz3 rfl ?_) | (refine r_fieldb (hd 14 _ rfl rfl rfl) T.f35_1 T.sz3 rfl ?_)
                      exact awl_nil ⟨rfl, post_put⟩⟩⟩
                  , ⟨_, rfl, fun sl hd hr ho => by
                      refine g_run rfl (hd 11 _ rfl rfl rfl) hg119 ?_
                      refine r_load1 (hd 15 _ rfl rfl rfl) T.agg3 rfl ?_
                      exact awl_nil ⟨rfl, post_put⟩⟩⟩
                  , ⟨_, rfl, fun sl hd hr ho => by
                      refine g_run rfl (hd 11 _ rfl rfl rfl) hg119 ?_
                      refine r_move (hr 11 _ rfl rfl rfl) rfl ?_
                      exact awl_nil ⟨rfl, post_put⟩⟩⟩
                  , ⟨_, rfl, fun sl hd hr ho => by
                      refine g_run rfl (hd 11 _ rfl rfl rfl) hg119 ?_
                      refine r_move (hr 15 _ rfl rfl rfl) rfl ?_
                      exact awl_nil ⟨rfl, post_put⟩⟩⟩
                  , ⟨_, rfl, fun sl hd hr ho => by
                      refine g_run rfl (hd 11 _ rfl rfl rfl) hg119 ?_
                      refine r_index (hd 17 _ rfl rfl rfl) rfl (hd 18 _ rfl rfl rfl) T.sl22 T.sz35 (by omega) (get_map hy) rfl ?_
                      exact awl_nil ⟨rfl, post_put⟩⟩⟩
                  , ⟨_, rfl, fun sl hd hr ho => by
                      refine g_run rfl (hd 11 _ rfl rfl rfl) hg119 ?_
                      first | (refine r_fieldcp (hd 19 _ rfl rfl rfl) T.f35_1 T.sz3 rfl ?_) | (refine r_fieldb (hd 19 _ rfl rfl rfl) T.f35_1 T.sz3 rfl ?_)
                      exact awl_nil ⟨rfl, post_put⟩⟩⟩
                  , ⟨_, rfl, fun sl hd hr ho => by
                      refine g_run rfl (hd 11 _ rfl rfl rfl) hg119 ?_
                      refine r_load1 (hd 20 _ rfl rfl rfl) T.agg3 rfl ?_
                      exact awl_nil ⟨rfl, post_put⟩⟩⟩
                  (by rfl) ?_
                refine g_run rfl rfl hg119 ?_
                refine r_cmp rfl rfl rfl rfl ?_
                refine r_pickT rfl hg119 rfl rfl ?_
                refine awl_nil ?_
                refine x_then ?_
                refine awp_cond rfl (fun hc7 => ?_) (fun hc7 => ?_)
                ·
                  exfalso; exact hap1 x (List.mem_of_getElem? hx) y (List.mem_of_getElem? hy) (Prod.ext (eq_of_beq hg119) (eq_of_beq hc7))
                ·
                  refine awp_skip ?_
                  refine x_block ?_
                  refine x_then ?_
                  refine awp_region ?_
                  refine r_move rfl rfl ?_
                  refine r_ari _ rfl rfl rfl (wrap_id (by first | omega | (simp; omega))) rfl ?_
                  refine r_assign rfl rfl ?_
                  refine awl_nil ?_
                  refine x_then ?_
                  refine ⟨us.length - (j + 1), ⟨162, [(9, .a (entsA ts)), (10, .a (clasA cs)), (11, .a (entsA us)), (14, .a (.v (.int .i64 ((k : Int))))), (15, .a (.v (.int .i64 (((j + 1) : Int)))))], []⟩, ⟨rfl, (Slots.cons rfl (by first | exact .refl _ | exact .nilOwn _ _ | exact .nilSl _ | exact .ownSl _ _ _  | exact SV.le.of_eq (by simp)) (Slots.cons rfl (by first | exact .refl _ | exact .nilOwn _ _ | exact .nilSl _ | exact .ownSl _ _ _  | exact SV.le.of_eq (by simp)) (Slots.cons rfl (by first | exact .refl _ | exact .nilOwn _ _ | exact .nilSl _ | exact .ownSl _ _ _  | exact SV.le.of_eq (by simp)) (Slots.cons rfl (by first | exact .refl _ | exact .nilOwn _ _ | exact .nilSl _ | exact .ownSl _ _ _  | exact SV.le.of_eq (by simp)) (Slots.cons rfl (by first | exact .refl _ | exact .nilOwn _ _ | exact .nilSl _ | exact .ownSl _ _ _  | exact SV.le.of_eq (by simp)) Slots.nil))))), (by first | exact List.Sublist.refl _ | exact .cons_cons _ (.cons _ (.refl _)) | exact List.nil_sublist _ | exact .cons _ (.refl _) | exact .cons _ (.cons _ (.refl _)) | exact .cons _ (.cons _ (.cons _ (.refl _))) | exact .cons _ (.cons _ (.cons _ (.cons _ (.refl _)))) | exact .cons_cons _ (List.nil_sublist _))⟩, (by omega), ⟨j + 1, rfl, rfl, (by have := (List.getElem?_eq_some_iff.1 hy).1; omega)⟩⟩
              ·
                refine awp_drawS [108, 109, 110, 111, 112, 113, 114, 115, 116, 117, 118, 119, 120, 121, 122, 123, 124, 125, 126, 127, 128, 129] [_, _, _, _, _, _, _, _, _, _, _, _, _, _, _, _, _, _, _, _, _, _] [] [] T.mixed rfl rfl rfl ⟨⟨⟨⟨⟨⟨⟨⟨⟨⟨⟨⟨⟨⟨⟨⟨⟨⟨⟨⟨⟨⟨trivial
                  , ⟨_, rfl, fun sl hd hr ho => by
                      refine r_move (hr 9 _ rfl rfl rfl) rfl ?_
                      exact awl_nil ⟨rfl, post_put⟩⟩⟩
                  , ⟨_, rfl, fun sl hd hr ho => by
                      refine r_move (hr 14 _ rfl rfl rfl) rfl ?_
                      exact awl_nil ⟨rfl, post_put⟩⟩⟩
                  , ⟨_, rfl, fun sl hd hr ho => by
                      refine r_index (hd 0 _ rfl rfl rfl) rfl (hd 1 _ rfl rfl rfl) T.sl22 T.sz35 (by omega) (get_map hx) rfl ?_
                      exact awl_nil ⟨rfl, post_put⟩⟩⟩
                  , ⟨_, rfl, fun sl hd hr ho => by
                      first | (refine r_fieldcp (hd 2 _ rfl rfl rfl) T.f35_0 T.sz3 rfl ?_) | (refine r_fieldb (hd 2 _ rfl rfl rfl) T.f35_0 T.sz3 rfl ?_)
                      exact awl_nil ⟨rfl, post_put⟩⟩⟩
                  , ⟨_, rfl, fun sl hd hr ho => by
                      refine r_load1 (hd 3 _ rfl rfl rfl) T.agg3 rfl ?_
                      exact awl_nil ⟨rfl, post_put⟩⟩⟩
                  , ⟨_, rfl, fun sl hd hr ho => by
                      refine r_move (hr 11 _ rfl rfl rfl) rfl ?_
                      exact awl_nil ⟨rfl, post_put⟩⟩⟩
                  , ⟨_, rfl, fun sl hd hr ho => by
                      refine r_move (hr 15 _ rfl rfl rfl) rfl ?_
                      exact awl_nil ⟨rfl, post_put⟩⟩⟩
                  , ⟨_, rfl, fun sl hd hr ho => by
                      refine r_index (hd 5 _ rfl rfl rfl) rfl (hd 6 _ rfl rfl rfl) T.sl22 T.sz35 (by omega) (get_map hy) rfl ?_
                      exact awl_nil ⟨rfl, post_put⟩⟩⟩
                  , ⟨_, rfl, fun sl hd hr ho => by
                      first | (refine r_fieldcp (hd 7 _ rfl rfl rfl) T.f35_0 T.sz3 rfl ?_) | (refine r_fieldb (hd 7 _ rfl rfl rfl) T.f35_0 T.sz3 rfl ?_)
                      exact awl_nil ⟨rfl, post_put⟩⟩⟩
                  , ⟨_, rfl, fun sl hd hr ho => by
                      refine r_load1 (hd 8 _ rfl rfl rfl) T.agg3 rfl ?_
                      exact awl_nil ⟨rfl, post_put⟩⟩⟩
                  , ⟨_, rfl, fun sl hd hr ho => by
                      refine r_cmp (hd 4 _ rfl rfl rfl) (hd 9 _ rfl rfl rfl) rfl rfl ?_
                      exact awl_nil ⟨rfl, post_put⟩⟩⟩
                  , ⟨_, rfl, fun sl hd hr ho => by
                      refine r_move (hd 10 _ rfl rfl rfl) rfl ?_
                      exact awl_nil ⟨rfl, post_put⟩⟩⟩
                  , ⟨_, rfl, fun sl hd hr ho => by
                      refine g_skip rfl (hd 11 _ rfl rfl rfl) hg119 rfl ?_
                      exact awl_nil ⟨rfl, post_put⟩⟩⟩
                  , ⟨_, rfl, fun sl hd hr ho => by
                      refine g_skip rfl (hd 11 _ rfl rfl rfl) hg119 rfl ?_
                      exact awl_nil ⟨rfl, post_put⟩⟩⟩
                  , ⟨_, rfl, fun sl hd hr ho => by
                      refine g_skip rfl (hd 11 _ rfl rfl rfl) hg119 rfl ?_
                      exact awl_nil ⟨rfl, post_put⟩⟩⟩
                  , ⟨_, rfl, fun sl hd hr ho => by
                      refine g_skip rfl (hd 11 _ rfl rfl rfl) hg119 rfl ?_
                      exact awl_nil ⟨rfl, post_put⟩⟩⟩
                  , ⟨_, rfl, fun sl hd hr ho => by
                      refine g_skip rfl (hd 11 _ rfl rfl rfl) hg119 rfl ?_
                      exact awl_nil ⟨rfl, post_put⟩⟩⟩
                  , ⟨_, rfl, fun sl hd hr ho => by
                      refine g_skip rfl (hd 11 _ rfl rfl rfl) hg119 rfl ?_
                      exact awl_nil ⟨rfl, post_put⟩⟩⟩
                  , ⟨_, rfl, fun sl hd hr ho => by
                      refine g_skip rfl (hd 11 _ rfl rfl rfl) hg119 rfl ?_
                      exact awl_nil ⟨rfl, post_put⟩⟩⟩
                  , ⟨_, rfl, fun sl hd hr ho => by
                      refine g_skip rfl (hd 11 _ rfl rfl rfl) hg119 rfl ?_
                      exact awl_nil ⟨rfl, post_put⟩⟩⟩
                  , ⟨_, rfl, fun sl hd hr ho => by
                      refine g_skip rfl (hd 11 _ rfl rfl rfl) hg119 rfl ?_
                      exact awl_nil ⟨rfl, post_put⟩⟩⟩
                  , ⟨_, rfl, fun sl hd hr ho => by
                      refine g_skip rfl (hd 11 _ rfl rfl rfl) hg119 rfl ?_
                      exact awl_nil ⟨rfl, post_put⟩⟩⟩
                  (by rfl) ?_
                refine g_skip rfl rfl hg119 rfl ?_
                refine r_pickF rfl hg119 rfl rfl ?_
                refine awl_nil ?_
                refine x_then ?_
                refine awp_condF rfl ?_
                refine awp_skip ?_
                refine x_block ?_
                refine x_then ?_
                refine awp_region ?_
                refine r_move rfl rfl ?_
                refine r_ari _ rfl rfl rfl (wrap_id (by first | omega | (simp; omega))) rfl ?_
                refine r_assign rfl rfl ?_
                refine awl_nil ?_
                refine x_then ?_
                refine ⟨us.length - (j + 1), ⟨162, [(9, .a (entsA ts)), (10, .a (clasA cs)), (11, .a (entsA us)), (14, .a (.v (.int .i64 ((k : Int))))), (15, .a (.v (.int .i64 (((j + 1) : Int)))))], []⟩, ⟨rfl, (Slots.cons rfl (by first | exact .refl _ | exact .nilOwn _ _ | exact .nilSl _ | exact .ownSl _ _ _  | exact SV.le.of_eq (by simp)) (Slots.cons rfl (by first | exact .refl _ | exact .nilOwn _ _ | exact .nilSl _ | exact .ownSl _ _ _  | exact SV.le.of_eq (by simp)) (Slots.cons rfl (by first | exact .refl _ | exact .nilOwn _ _ | exact .nilSl _ | exact .ownSl _ _ _  | exact SV.le.of_eq (by simp)) (Slots.cons rfl (by first | exact .refl _ | exact .nilOwn _ _ | exact .nilSl _ | exact .ownSl _ _ _  | exact SV.le.of_eq (by simp)) (Slots.cons rfl (by first | exact .refl _ | exact .nilOwn _ _ | exact .nilSl _ | exact .ownSl _ _ _  | exact SV.le.of_eq (by simp)) Slots.nil))))), (by first | exact List.Sublist.refl _ | exact .cons_cons _ (.cons _ (.refl _)) | exact List.nil_sublist _ | exact .cons _ (.refl _) | exact .cons _ (.cons _ (.refl _)) | exact .cons _ (.cons _ (.cons _ (.refl _))) | exact .cons _ (.cons _ (.cons _ (.cons _ (.refl _)))) | exact .cons_cons _ (List.nil_sublist _))⟩, (by omega), ⟨j + 1, rfl, rfl, (by have := (List.getElem?_eq_some_iff.1 hy).1; omega)⟩⟩
            ·
              refine awp_exit ?_
              refine x_thenE ?_
              refine x_thenE ?_
              refine x_blockE ?_
              refine x_then ?_
              refine awp_seq ?_
              refine awp_region ?_
              refine r_assign rfl rfl ?_
              refine awl_nil ?_
              refine x_then ?_
              refine awp_block ?_
              refine awp_loop (fun nn0 S => ∃ j : Nat, S = ⟨162, [(9, .a (entsA ts)), (10, .a (clasA cs)), (11, .a (entsA us)), (14, .a (.v (.int .i64 ((k : Int))))), (16, .a (.v (.int .i64 ((j : Int)))))], []⟩ ∧ nn0 = cs.length - j ∧ (j ≤ cs.length)) (cs.length - (0)) ⟨162, [(9, .a (entsA ts)), (10, .a (clasA cs)), (11, .a (entsA us)), (14, .a (.v (.int .i64 ((k : Int))))), (16, .a (.v (.int .i64 (((0) : Int)))))], []⟩ ⟨rfl, (Slots.cons rfl (by first | exact .refl _ | exact .nilOwn _ _ | exact .nilSl _ | exact .ownSl _ _ _  | exact SV.le.of_eq (by simp)) (Slots.cons rfl (by first | exact .refl _ | exact .nilOwn _ _ | exact .nilSl _ | exact .ownSl _ _ _  | exact SV.le.of_eq (by simp)) (Slots.cons rfl (by first | exact .refl _ | exact .nilOwn _ _ | exact .nilSl _ | exact .ownSl _ _ _  | exact SV.le.of_eq (by simp)) (Slots.cons rfl (by first | exact .refl _ | exact .nilOwn _ _ | exact .nilSl _ | exact .ownSl _ _ _  | exact SV.le.of_eq (by simp)) (Slots.cons rfl (by first | exact .refl _ | exact .nilOwn _ _ | exact .nilSl _ | exact .ownSl _ _ _  | exact SV.le.of_eq (by simp)) Slots.nil))))), (by first | exact List.Sublist.refl _ | exact .cons_cons _ (.cons _ (.refl _)) | exact List.nil_sublist _ | exact .cons _ (.refl _) | exact .cons _ (.cons _ (.refl _)) | exact .cons _ (.cons _ (.cons _ (.refl _))) | exact .cons _ (.cons _ (.cons _ (.cons _ (.refl _)))) | exact .cons_cons _ (List.nil_sublist _))⟩ ⟨0, rfl, rfl, Nat.zero_le _⟩ ?_
              rintro nn0 _ ⟨j, rfl, rfl, hj⟩
              refine awp_seq ?_
              refine awp_seq ?_
              refine awp_region ?_
              refine r_move rfl rfl ?_
              refine r_move rfl rfl ?_
              first | (refine r_lenS rfl rfl T.sl26 rfl ?_) | (refine r_lenNil rfl T.sl26 rfl ?_)
              refine r_cmp rfl rfl rfl rfl ?_
              refine awl_nil ?_
              refine x_then ?_
              refine awp_cond rfl (fun hc8 => ?_) (fun hc8 => ?_)
              ·
                have hlty : j < cs.length := by have := of_decide_eq_true hc8; simpa using this
                obtain ⟨y, hy⟩ := get_lt hlty
                refine awp_skip ?_
                refine x_then ?_
                refine awp_seq ?_
                refine awp_block ?_
                refine awp_seq ?_
                rcases Bool.eq_false_or_eq_true (x.vol == y.vol) with hg149 | hg149
                ·
                  refine awp_drawS [138, 139, 140, 141, 142, 143, 144, 145, 146, 147, 148, 149, 150, 151, 152, 153, 154, 155, 156, 157, 158, 159] [_, _, _, _, _, _, _, _, _, _, _, _, _, _, _, _, _, _, _, _, _, _] [] [] T.mixed rfl rfl rfl ⟨⟨⟨⟨⟨⟨⟨⟨⟨⟨⟨⟨⟨⟨⟨⟨⟨⟨⟨⟨⟨⟨trivial
                    , ⟨_, rfl, fun sl hd hr ho => by
                        refine r_move (hr 9 _ rfl rfl rfl) rfl ?_
                        exact awl_nil ⟨rfl, post_put⟩⟩⟩
                    , ⟨_, rfl, fun sl hd hr ho => by
                        refine r_move (hr 14 _ rfl rfl rfl) rfl ?_
                        exact awl_nil ⟨rfl, post_put⟩⟩⟩
                    , ⟨_, rfl, fun sl hd hr ho => by
                        refine r_index (hd 0 _ rfl rfl rfl) rfl (hd 1 _ rfl rfl rfl) T.sl22 T.sz35 (by omega) (get_map hx) rfl ?_
                        exact awl_nil ⟨rfl, post_put⟩⟩⟩
                    , ⟨_, rfl, fun sl hd hr ho => by
                        first | (refine r_fieldcp (hd 2 _ rfl rfl rfl) T.f35_0 T.sz3 rfl ?_) | (refine r_fieldb (hd 2 _ rfl rfl rfl) T.f35_0 T.sz3 rfl ?_)
                        exact awl_nil ⟨rfl, post_put⟩⟩⟩
                    , ⟨_, rfl, fun sl hd hr ho => by
                        refine r_load1 (hd 3 _ rfl rfl rfl) T.agg3 rfl ?_
                        exact awl_nil ⟨rfl, post_put⟩⟩⟩
                    , ⟨_, rfl, fun sl hd hr ho => by
                        refine r_move (hr 10 _ rfl rfl rfl) rfl ?_
                        exact awl_nil ⟨rfl, post_put⟩⟩⟩
                    , ⟨_, rfl, fun sl hd hr ho => by
                        refine r_move (hr 16 _ rfl rfl rfl) rfl ?_
                        exact awl_nil ⟨rfl, post_put⟩⟩⟩
                    , ⟨_, rfl, fun sl hd hr ho => by
                        refine r_index (hd 5 _ rfl rfl rfl) rfl (hd 6 _ rfl rfl rfl) T.sl26 T.sz37 (by omega) (get_map hy) rfl ?_
                        exact awl_nil ⟨rfl, post_put⟩⟩⟩
                    , ⟨_, rfl, fun sl hd hr ho => by
                        first | (refine r_fieldcp (hd 7 _ rfl rfl rfl) T.f37_0 T.sz3 rfl ?_) | (refine r_fieldb (hd 7 _ rfl rfl rfl) T.f37_0 T.sz3 rfl ?_)
                        exact awl_nil ⟨rfl, post_put⟩⟩⟩
                    , ⟨_, rfl, fun sl hd hr ho => by
                        refine r_load1 (hd 8 _ rfl rfl rfl) T.agg3 rfl ?_
                        exact awl_nil ⟨rfl, post_put⟩⟩⟩
                    , ⟨_, rfl, fun sl hd hr ho => by
                        refine r_cmp (hd 4 _ rfl rfl rfl) (hd 9 _ rfl rfl rfl) rfl rfl ?_
                        exact awl_nil ⟨rfl, post_put⟩⟩⟩
                    , ⟨_, rfl, fun sl hd hr ho => by
                        refine r_move (hd 10 _ rfl rfl rfl) rfl ?_
                        exact awl_nil ⟨rfl, post_put⟩⟩⟩
                    , ⟨_, rfl, fun sl hd hr ho => by
                        refine g_run rfl (hd 11 _ rfl rfl rfl) hg149 ?_
                        refine r_move (hr 9 _ rfl rfl rfl) rfl ?_
                        exact awl_nil ⟨rfl, post_put⟩⟩⟩
                    , ⟨_, rfl, fun sl hd hr ho => by
                        refine g_run rfl (hd 11 _ rfl rfl rfl) hg149 ?_
                        refine r_move (hr 14 _ rfl rfl rfl) rfl ?_
                        exact awl_nil ⟨rfl, post_put⟩⟩⟩
                    , ⟨_, rfl, fun sl hd hr ho => by
                        refine g_run rfl (hd 11 _ rfl rfl rfl) hg149 ?_
                        refine r_index (hd 12 _ rfl rfl rfl) rfl (hd 13 _ rfl rfl rfl) T.sl22 T.sz35 (by omega) (get_map hx) rfl ?_
                        exact awl_nil ⟨rfl, post_put⟩⟩⟩
                    , ⟨_, rfl, fun sl hd hr ho => by
                        refine g_run rfl (hd 11 _ rfl rfl rfl) hg149 ?_
                        first | (refine r_fieldcp (hd 14 _ rfl rfl rfl) T.f35_1 T.sz3 rfl ?_) | (refine r_fieldb (hd 14 _ rfl rfl rfl) T.f35_1 T.sz3 rfl ?_)
                        exact awl_nil ⟨rfl, post_put⟩⟩⟩
                    , ⟨_, rfl, fun sl hd hr ho => by
                        refine g_run rfl (hd 11 _ rfl rfl rfl) hg149 ?_
                        refine r_load1 (hd 15 _ rfl rfl rfl) T.agg3 rfl ?_
                        exact awl_nil ⟨rfl, post_put⟩⟩⟩
                    , ⟨_, rfl, fun sl hd hr ho => by
                        refine g_run rfl (hd 11 _ rfl rfl rfl) hg149 ?_
                        refine r_move (hr 10 _ rfl rfl rfl) rfl ?_
                        exact awl_nil ⟨rfl, post_put⟩⟩⟩
                    , ⟨_, rfl, fun sl hd hr ho => by
                        refine g_run rfl (hd 11 _ rfl rfl rfl) hg149 ?_
                        refine r_move (hr 16 _ rfl rfl rfl) rfl ?_
                        exact awl_nil ⟨rfl, post_put⟩⟩⟩
                    , ⟨_, rfl, fun sl hd hr ho => by
                        refine g_run rfl (hd 11 _ rfl rfl rfl) hg149 ?_
                        refine r_index (hd 17 _ rfl rfl rfl) rfl (hd 18 _ rfl rfl rfl) T.sl26 T.sz37 (by omega) (get_map hy) rfl ?_
                        exact awl_nil ⟨rfl, post_put⟩⟩⟩
                    , ⟨_, rfl, fun sl hd hr ho => by
                        refine g_run rfl (hd 11 _ rfl rfl rfl) hg149 ?_
                        first | (refine r_fieldcp (hd 19 _ rfl rfl rfl) T.f37_1 T.sz3 rfl ?_) | (refine r_fieldb (hd 19 _ rfl rfl rfl) T.f37_1 T.sz3 rfl ?_)
                        exact awl_nil ⟨rfl, post_put⟩⟩⟩
                    , ⟨_, rfl, fun sl hd hr ho => by
                        refine g_run rfl (hd 11 _ rfl rfl rfl) hg149 ?_
                        refine r_load1 (hd 20 _ rfl rfl rfl) T.agg3 rfl ?_
                        exact awl_nil ⟨rfl, post_put⟩⟩⟩
                    (by rfl) ?_
                  refine g_run rfl rfl hg149 ?_
                  refine r_cmp rfl rfl rfl rfl ?_
                  refine r_pickT rfl hg149 rfl rfl ?_
                  refine awl_nil ?_
                  refine x_then ?_
                  refine awp_cond rfl (fun hc9 => ?_) (fun hc9 => ?_)
                  ·
                    exfalso; exact hap2 x (List.mem_of_getElem? hx) y (List.mem_of_getElem? hy) (Prod.ext (eq_of_beq hg149) (eq_of_beq hc9))
                  ·
                    refine awp_skip ?_
                    refine x_block ?_
                    refine x_then ?_
                    refine awp_region ?_
                    refine r_move rfl rfl ?_
                    refine r_ari _ rfl rfl rfl (wrap_id (by first | omega | (simp; omega))) rfl ?_
                    refine r_assign rfl rfl ?_
                    refine awl_nil ?_
                    refine x_then ?_
                    refine ⟨cs.length - (j + 1), ⟨162, [(9, .a (entsA ts)), (10, .a (clasA cs)), (11, .a (entsA us)), (14, .a (.v (.int .i64 ((k : Int))))), (16, .a (.v (.int .i64 (((j + 1) : Int)))))], []⟩, ⟨rfl, (Slots.cons rfl (by first | exact .refl _ | exact .nilOwn _ _ | exact .nilSl _ | exact .ownSl _ _ _  | exact SV.le.of_eq (by simp)) (Slots.cons rfl (by first | exact .refl _ | exact .nilOwn _ _ | exact .nilSl _ | exact .ownSl _ _ _  | exact SV.le.of_eq (by simp)) (Slots.cons rfl (by first | exact .refl _ | exact .nilOwn _ _ | exact .nilSl _ | exact .ownSl _ _ _  | exact SV.le.of_eq (by simp)) (Slots.cons rfl (by first | exact .refl _ | exact .nilOwn _ _ | exact .nilSl _ | exact .ownSl _ _ _  | exact SV.le.of_eq (by simp)) (Slots.cons rfl (by first | exact .refl _ | exact .nilOwn _ _ | exact .nilSl _ | exact .ownSl _ _ _  | exact SV.le.of_eq (by simp)) Slots.nil))))), (by first | exact List.Sublist.refl _ | exact .cons_cons _ (.cons _ (.refl _)) | exact List.nil_sublist _ | exact .cons _ (.refl _) | exact .cons _ (.cons _ (.refl _)) | exact .cons _ (.cons _ (.cons _ (.refl _))) | exact .cons _ (.cons _ (.cons _ (.cons _ (.refl _)))) | exact .cons_cons _ (List.nil_sublist _))⟩, (by omega), ⟨j + 1, rfl, rfl, (by have := (List.getElem?_eq_some_iff.1 hy).1; omega)⟩⟩
                ·
                  refine awp_drawS [138, 139, 140, 141, 142, 143, 144, 145, 146, 147, 148, 149, 150, 151, 152, 153, 154, 155, 156, 157, 158, 159] [_, _, _, _, _, _, _, _, _, _, _, _, _, _, _, _, _, _, _, _, _, _] [] [] T.mixed rfl rfl rfl ⟨⟨⟨⟨⟨⟨⟨⟨⟨⟨⟨⟨⟨⟨⟨⟨⟨⟨⟨⟨⟨⟨trivial
                    , ⟨_, rfl, fun sl hd hr ho => by
                        refine r_move (hr 9 _ rfl rfl rfl) rfl ?_
                        exact awl_nil ⟨rfl, post_put⟩⟩⟩
                    , ⟨_, rfl, fun sl hd hr ho => by
                        refine r_move (hr 14 _ rfl rfl rfl) rfl ?_
                        exact awl_nil ⟨rfl, post_put⟩⟩⟩
                    , ⟨_, rfl, fun sl hd hr ho => by
                        refine r_index (hd 0 _ rfl rfl rfl) rfl (hd 1 _ rfl rfl rfl) T.sl22 T.sz35 (by omega) (get_map hx) rfl ?_
                        exact awl_nil ⟨rfl, post_put⟩⟩⟩
                    , ⟨_, rfl, fun sl hd hr ho => by
                        first | (refine r_fieldcp (hd 2 _ rfl rfl rfl) T.f35_0 T.sz3 rfl ?_) | (refine r_fieldb (hd 2 _ rfl rfl rfl) T.f35_0 T.sz3 rfl ?_)
                        exact awl_nil ⟨rfl, post_put⟩⟩⟩
                    , ⟨_, rfl, fun sl hd hr ho => by
                        refine r_load1 (hd 3 _ rfl rfl rfl) T.agg3 rfl ?_
                        exact awl_nil ⟨rfl, post_put⟩⟩⟩
                    , ⟨_, rfl, fun sl hd hr ho => by
                        refine r_move (hr 10 _ rfl rfl rfl) rfl ?_
                        exact awl_nil ⟨rfl, post_put⟩⟩⟩
                    , ⟨_, rfl, fun sl hd hr ho => by
                        refine r_move (hr 16 _ rfl rfl rfl) rfl ?_
                        exact awl_nil ⟨rfl, post_put⟩⟩⟩
                    , ⟨_, rfl, fun sl hd hr ho => by
                        refine r_index (hd 5 _ rfl rfl rfl) rfl (hd 6 _ rfl rfl rfl) T.sl26 T.sz37 (by omega) (get_map hy) rfl ?_
                        exact awl_nil ⟨rfl, post_put⟩⟩⟩
                    , ⟨_, rfl, fun sl hd hr ho => by
                        first | (refine r_fieldcp (hd 7 _ rfl rfl rfl) T.f37_0 T.sz3 rfl ?_) | (refine r_fieldb (hd 7 _ rfl rfl rfl) T.f37_0 T.sz3 rfl ?_)
                        exact awl_nil ⟨rfl, post_put⟩⟩⟩
                    , ⟨_, rfl, fun sl hd hr ho => by
                        refine r_load1 (hd 8 _ rfl rfl rfl) T.agg3 rfl ?_
                        exact awl_nil ⟨rfl, post_put⟩⟩⟩
                    , ⟨_, rfl, fun sl hd hr ho => by
                        refine r_cmp (hd 4 _ rfl rfl rfl) (hd 9 _ rfl rfl rfl) rfl rfl ?_
                        exact awl_nil ⟨rfl, post_put⟩⟩⟩
                    , ⟨_, rfl, fun sl hd hr ho => by
                        refine r_move (hd 10 _ rfl rfl rfl) rfl ?_
                        exact awl_nil ⟨rfl, post_put⟩⟩⟩
                    , ⟨_, rfl, fun sl hd hr ho => by
                        refine g_skip rfl (hd 11 _ rfl rfl rfl) hg149 rfl ?_
                        exact awl_nil ⟨rfl, post_put⟩⟩⟩
                    , ⟨_, rfl, fun sl hd hr ho => by
                        refine g_skip rfl (hd 11 _ rfl rfl rfl) hg149 rfl ?_
                        exact awl_nil ⟨rfl, post_put⟩⟩⟩
                    , ⟨_, rfl, fun sl hd hr ho => by
                        refine g_skip rfl (hd 11 _ rfl rfl rfl) hg149 rfl ?_
                        exact awl_nil ⟨rfl, post_put⟩⟩⟩
                    , ⟨_, rfl, fun sl hd hr ho => by
                        refine g_skip rfl (hd 11 _ rfl rfl rfl) hg149 rfl ?_
                        exact awl_nil ⟨rfl, post_put⟩⟩⟩
                    , ⟨_, rfl, fun sl hd hr ho => by
                        refine g_skip rfl (hd 11 _ rfl rfl rfl) hg149 rfl ?_
                        exact awl_nil ⟨rfl, post_put⟩⟩⟩
                    , ⟨_, rfl, fun sl hd hr ho => by
                        refine g_skip rfl (hd 11 _ rfl rfl rfl) hg149 rfl ?_
                        exact awl_nil ⟨rfl, post_put⟩⟩⟩
                    , ⟨_, rfl, fun sl hd hr ho => by
                        refine g_skip rfl (hd 11 _ rfl rfl rfl) hg149 rfl ?_
                        exact awl_nil ⟨rfl, post_put⟩⟩⟩
                    , ⟨_, rfl, fun sl hd hr ho => by
                        refine g_skip rfl (hd 11 _ rfl rfl rfl) hg149 rfl ?_
                        exact awl_nil ⟨rfl, post_put⟩⟩⟩
                    , ⟨_, rfl, fun sl hd hr ho => by
                        refine g_skip rfl (hd 11 _ rfl rfl rfl) hg149 rfl ?_
                        exact awl_nil ⟨rfl, post_put⟩⟩⟩
                    , ⟨_, rfl, fun sl hd hr ho => by
                        refine g_skip rfl (hd 11 _ rfl rfl rfl) hg149 rfl ?_
                        exact awl_nil ⟨rfl, post_put⟩⟩⟩
                    (by rfl) ?_
                  refine g_skip rfl rfl hg149 rfl ?_
                  refine r_pickF rfl hg149 rfl rfl ?_
                  refine awl_nil ?_
                  refine x_then ?_
                  refine awp_condF rfl ?_
                  refine awp_skip ?_
                  refine x_block ?_
                  refine x_then ?_
                  refine awp_region ?_
                  refine r_move rfl rfl ?_
                  refine r_ari _ rfl rfl rfl (wrap_id (by first | omega | (simp; omega))) rfl ?_
                  refine r_assign rfl rfl ?_
                  refine awl_nil ?_
                  refine x_then ?_
                  refine ⟨cs.length - (j + 1), ⟨162, [(9, .a (entsA ts)), (10, .a (clasA cs)), (11, .a (entsA us)), (14, .a (.v (.int .i64 ((k : Int))))), (16, .a (.v (.int .i64 (((j + 1) : Int)))))], []⟩, ⟨rfl, (Slots.cons rfl (by first | exact .refl _ | exact .nilOwn _ _ | exact .nilSl _ | exact .ownSl _ _ _  | exact SV.le.of_eq (by simp)) (Slots.cons rfl (by first | exact .refl _ | exact .nilOwn _ _ | exact .nilSl _ | exact .ownSl _ _ _  | exact SV.le.of_eq (by simp)) (Slots.cons rfl (by first | exact .refl _ | exact .nilOwn _ _ | exact .nilSl _ | exact .ownSl _ _ _  | exact SV.le.of_eq (by simp)) (Slots.cons rfl (by first | exact .refl _ | exact .nilOwn _ _ | exact .nilSl _ | exact .ownSl _ _ _  | exact SV.le.of_eq (by simp)) (Slots.cons rfl (by first | exact .refl _ | exact .nilOwn _ _ | exact .nilSl _ | exact .ownSl _ _ _  | exact SV.le.of_eq (by simp)) Slots.nil))))), (by first | exact List.Sublist.refl _ | exact .cons_cons _ (.cons _ (.refl _)) | exact List.nil_sublist _ | exact .cons _ (.refl _) | exact .cons _ (.cons _ (.refl _)) | exact .cons _ (.cons _ (.cons _ (.refl _))) | exact .cons _ (.cons _ (.cons _ (.cons _ (.refl _)))) | exact .cons_cons _ (List.nil_sublist _))⟩, (by omega), ⟨j + 1, rfl, rfl, (by have := (List.getElem?_eq_some_iff.1 hy).1; omega)⟩⟩
              ·
                refine awp_exit ?_
                refine x_thenE ?_
                refine x_thenE ?_
                refine x_blockE ?_
                refine x_block ?_
                refine x_then ?_
                refine awp_region ?_
                refine r_move rfl rfl ?_
                refine r_ari _ rfl rfl rfl (wrap_id (by first | omega | (simp; omega))) rfl ?_
                refine r_assign rfl rfl ?_
                refine awl_nil ?_
                refine x_then ?_
                refine ⟨ts.length - (k + 1), ⟨162, [(9, .a (entsA ts)), (10, .a (clasA cs)), (11, .a (entsA us)), (14, .a (.v (.int .i64 (((k + 1) : Int)))))], []⟩, ⟨rfl, (Slots.cons rfl (by first | exact .refl _ | exact .nilOwn _ _ | exact .nilSl _ | exact .ownSl _ _ _  | exact SV.le.of_eq (by simp)) (Slots.cons rfl (by first | exact .refl _ | exact .nilOwn _ _ | exact .nilSl _ | exact .ownSl _ _ _  | exact SV.le.of_eq (by simp)) (Slots.cons rfl (by first | exact .refl _ | exact .nilOwn _ _ | exact .nilSl _ | exact .ownSl _ _ _  | exact SV.le.of_eq (by simp)) (Slots.cons rfl (by first | exact .refl _ | exact .nilOwn _ _ | exact .nilSl _ | exact .ownSl _ _ _  | exact SV.le.of_eq (by simp)) Slots.nil)))), (by first | exact List.Sublist.refl _ | exact .cons_cons _ (.cons _ (.refl _)) | exact List.nil_sublist _ | exact .cons _ (.refl _) | exact .cons _ (.cons _ (.refl _)) | exact .cons _ (.cons _ (.cons _ (.refl _))) | exact .cons _ (.cons _ (.cons _ (.cons _ (.refl _)))) | exact .cons_cons _ (List.nil_sublist _))⟩, (by omega), ⟨k + 1, rfl, rfl, (by have := (List.getElem?_eq_some_iff.1 hx).1; omega)⟩⟩
          ·
            refine awp_exit ?_
            refine x_thenE ?_
            refine x_thenE ?_
            refine x_blockE ?_
            refine x_then ?_
            refine awp_seq ?_
            refine awp_region ?_
            refine r_assign rfl rfl ?_
            refine awl_nil ?_
            refine x_then ?_
            refine awp_ret ?_
            exact ⟨(.inl rfl), _, [], (.one (by first | exact .mk rfl rfl | exact .nil rfl)), ⟨rfl, rfl⟩, (List.nil_sublist _), (by simp)⟩

set_option maxHeartbeats 1000000 in
theorem order_law (base ours theirs : List Ent) (table : Int) (hgb : Good base) (hgo : Good ours) (hgt : Good theirs) : AC Try.prog 8 [entsA base, entsA ours, entsA theirs, numA table] [] (fun r n => n = [] ∧ r = bA true) := by
  refine ac_of_awp (rs := [8]) (nt := 161) Try.func8 rfl rfl rfl rfl (fun w0 C0 hq => ?_)
  refine awp_seq ?_
  refine awp_region ?_
  refine r_assign rfl rfl ?_
  refine awl_nil ?_
  refine x_then ?_
  refine awp_seq ?_
  refine awp_seq ?_
  refine awp_region ?_
  refine r_call0 hq rfl rfl .nil (awake_ok) rfl T.en11 rfl (fun r hr => ?_)
  obtain rfl := hr
  refine r_not rfl rfl ?_
  refine awl_nil ?_
  refine x_then ?_
  refine awp_cond rfl (fun hc0 => ?_) (fun hc0 => ?_)
  ·
    exfalso; exact absurd hc0 (by decide)
  ·
    refine awp_skip ?_
    refine x_then ?_
    refine awp_seq ?_
    refine awp_seq ?_
    refine awp_region ?_
    refine r_move rfl rfl ?_
    refine r_move rfl rfl ?_
    refine r_move rfl rfl ?_
    refine r_lit 19 (parts := [(0, .tmp 16), (1, .tmp 17), (2, .tmp 18)]) rfl T.sl44 T.sz22 T.zraw22 rfl rfl rfl rfl rfl rfl rfl ?_
    refine r_call0 hq rfl rfl (.cons (.ev rfl rfl) .nil) (great_ok [base, ours, theirs] (by simp)) rfl T.en12 rfl (fun r hr => ?_)
    rcases hr with rfl | ⟨rfl, hle⟩
    
    ·
      refine r_cmp rfl rfl rfl rfl ?_
      refine awl_nil ?_
      refine x_then ?_
      refine awp_condT rfl ?_
      refine awp_seq ?_
      refine awp_region ?_
      refine r_assign rfl rfl ?_
      refine awl_nil ?_
      refine x_then ?_
      refine awp_ret ?_
      refine x_thenR ?_
      exact ⟨(.inl rfl), _, [], (.one (by first | exact .mk rfl rfl | exact .nil rfl)), ⟨rfl, by first | (simp only [bA, SV.av]; done) | (simp only [bA, SV.av]; exact congrArg (fun b => AV.v (.bool b)) (decide_eq_true (by simp only [List.length_map]; omega)))⟩, (List.nil_sublist _), (by simp)⟩
    ·
      have hlbase : base.length ≤ 20 := hle base (by simp)
      have hlours : ours.length ≤ 20 := hle ours (by simp)
      have hltheirs : theirs.length ≤ 20 := hle theirs (by simp)
      refine r_cmp rfl rfl rfl rfl ?_
      refine awl_nil ?_
      refine x_then ?_
      refine awp_condF rfl ?_
      refine awp_skip ?_
      refine x_then ?_
      refine awp_seq ?_
      refine awp_region ?_
      refine r_move rfl rfl ?_
      refine r_move rfl rfl ?_
      refine r_move rfl rfl ?_
      refine r_move rfl rfl ?_
      refine r_call0 hq rfl rfl (.cons (.ev rfl rfl) .nil) (by_ok table) rfl T.en14 rfl (fun r hr => ?_)
      obtain rfl := hr
      refine r_call0 hq rfl rfl (.cons (.ev rfl rfl) (.cons (.ev rfl rfl) (.cons (.ev rfl rfl) (.cons (.ev rfl rfl) .nil)))) (three_ok (told_by table) base ours theirs (by omega) (by omega) (by omega) hgb hgo hgt) rfl T.en13 rfl (fun r hr => ?_)
      obtain rfl := hr
      have hsum := take_clash_sum (toldF table) base ours theirs
      have hs1 := take_sorted (toldF table) base ours theirs
      have hs2 := clash_sorted (toldF table) base ours theirs
      have hnum : ∀ e ∈ takeF (toldF table) base ours theirs, e.num = shows theirs e.pl := fun e he => (takeF_mem he).1
      generalize takeF (toldF table) base ours theirs = ts at hsum hs1 hnum ⊢
      generalize clashF (toldF table) base ours theirs = cs at hsum hs2 ⊢
      refine r_move rfl rfl ?_
      refine r_extract rfl rfl rfl ?_
      refine r_extract rfl rfl rfl ?_
      refine r_assign rfl rfl ?_
      refine r_assign rfl rfl ?_
      refine awl_nil ?_
      refine x_then ?_
      refine awp_seq ?_
      refine awp_seq ?_
      refine awp_region ?_
      refine r_assign rfl rfl ?_
      refine awl_nil ?_
      refine x_then ?_
      refine awp_block ?_
      refine awp_loop (fun nn0 S => ∃ k : Nat, S = ⟨161, [(0, .a (entsA base)), (1, .a (entsA ours)), (2, .a (entsA theirs)), (9, .a (entsA ts)), (10, .a (clasA cs)), (11, .a (.v (.int .i64 ((k : Int) + 1))))], []⟩ ∧ nn0 = ts.length - k ∧ (k ≤ ts.length)) (ts.length - (0)) ⟨161, [(0, .a (entsA base)), (1, .a (entsA ours)), (2, .a (entsA theirs)), (9, .a (entsA ts)), (10, .a (clasA cs)), (11, .a (.v (.int .i64 (((0) : Int) + 1))))], []⟩ ⟨rfl, (Slots.cons rfl (by first | exact .refl _ | exact .nilOwn _ _ | exact .nilSl _ | exact .ownSl _ _ _  | exact SV.le.ownEq (by simp) | exact SV.le.of_eq (by simp)) (Slots.cons rfl (by first | exact .refl _ | exact .nilOwn _ _ | exact .nilSl _ | exact .ownSl _ _ _  | exact SV.le.ownEq (by simp) | exact SV.le.of_eq (by simp)) (Slots.cons rfl (by first | exact .refl _ | exact .nilOwn _ _ | exact .nilSl _ | exact .ownSl _ _ _  | exact SV.le.ownEq (by simp) | exact SV.le.of_eq (by simp)) (Slots.cons rfl (by first | exact .refl _ | exact .nilOwn _ _ | exact .nilSl _ | exact .ownSl _ _ _  | exact SV.le.ownEq (by simp) | exact SV.le.of_eq (by simp)) (Slots.cons rfl (by first | exact .refl _ | exact .nilOwn _ _ | exact .nilSl _ | exact .ownSl _ _ _  | exact SV.le.ownEq (by simp) | exact SV.le.of_eq (by simp)) (Slots.cons rfl (by first | exact .refl _ | exact .nilOwn _ _ | exact .nilSl _ | exact .ownSl _ _ _  | exact SV.le.ownEq (by simp) | exact SV.le.of_eq (by simp)) Slots.nil)))))), (by first | exact List.Sublist.refl _ | exact .cons_cons _ (.cons _ (.refl _)) | exact List.nil_sublist _ | exact .cons _ (.refl _) | exact .cons _ (.cons _ (.refl _)) | exact .cons _ (.cons _ (.cons _ (.refl _))) | exact .cons _ (.cons _ (.cons _ (.cons _ (.refl _)))) | exact .cons_cons _ (List.nil_sublist _))⟩ ⟨0, rfl, rfl, Nat.zero_le _⟩ ?_
      rintro nn0 _ ⟨k, rfl, rfl, hk⟩
      refine awp_seq ?_
      refine awp_seq ?_
      refine awp_region ?_
      refine r_move rfl rfl ?_
      refine r_move rfl rfl ?_
      first | (refine r_lenS rfl rfl T.sl22 rfl ?_) | (refine r_lenNil rfl T.sl22 rfl ?_)
      refine r_cmp rfl rfl rfl rfl ?_
      refine awl_nil ?_
      refine x_then ?_
      refine awp_cond rfl (fun hc2 => ?_) (fun hc2 => ?_)
      ·
        have hlt : k + 1 < ts.length := by have := of_decide_eq_true hc2; simp at this; omega
        obtain ⟨x, hx⟩ := get_lt (show k < ts.length by omega)
        obtain ⟨y, hy⟩ := get_lt hlt
        have hxy := pw_step hs1 hx hy
        rw [ltP_iff] at hxy
        have hxy' : x.vol < y.vol ∨ (x.vol = y.vol ∧ x.blk < y.blk) := hxy
        refine awp_skip ?_
        refine x_then ?_
        refine awp_seq ?_
        refine awp_block ?_
        refine awp_seq ?_
        rcases Bool.eq_false_or_eq_true (x.vol == y.vol) with hg62 | hg62
        ·
          refine awp_drawS [37, 38, 39, 40, 41, 42, 43, 44, 45, 46, 47, 48, 49, 50, 51, 52, 53, 54, 55, 56, 57, 58, 59, 60, 61, 62, 63, 64, 65, 66, 67, 68, 69, 70, 71, 72, 73] [_, _, _, _, _, _, _, _, _, _, _, _, _, _, _, _, _, _, _, _, _, _, _, _, _, _, _, _, _, _, _, _, _, _, _, _, _] [] [] T.mixed rfl rfl rfl ⟨⟨⟨⟨⟨⟨⟨⟨⟨⟨⟨⟨⟨⟨⟨⟨⟨⟨⟨⟨⟨⟨⟨⟨⟨⟨⟨⟨⟨⟨⟨⟨⟨⟨⟨⟨⟨trivial
            , ⟨_, rfl, fun sl hd hr ho => by
                refine r_move (hr 9 _ rfl rfl rfl) rfl ?_
                exact awl_nil ⟨rfl, post_put⟩⟩⟩
            , ⟨_, rfl, fun sl hd hr ho => by
                refine r_move (hr 11 _ rfl rfl rfl) rfl ?_
                exact awl_nil ⟨rfl, post_put⟩⟩⟩
            , ⟨_, rfl, fun sl hd hr ho => by
                refine r_ari _ (hd 1 _ rfl rfl rfl) rfl rfl (wrap_id (by first | omega | (simp; omega))) rfl ?_
                exact awl_nil ⟨rfl, post_put⟩⟩⟩
            , ⟨_, rfl, fun sl hd hr ho => by
                refine r_index (hd 0 _ rfl rfl rfl) rfl (hd 2 _ rfl rfl rfl) T.sl22 T.sz35 (by omega) (by rw [show ((k : Int) + 1 - 1).toNat = k by omega]; exact get_map hx) rfl ?_
                exact awl_nil ⟨rfl, post_put⟩⟩⟩
            , ⟨_, rfl, fun sl hd hr ho => by
                first | (refine r_fieldcp (hd 3 _ rfl rfl rfl) T.f35_0 T.sz3 rfl ?_) | (refine r_fieldb (hd 3 _ rfl rfl rfl) T.f35_0 T.sz3 rfl ?_)
                exact awl_nil ⟨rfl, post_put⟩⟩⟩
            , ⟨_, rfl, fun sl hd hr ho => by
                refine r_load1 (hd 4 _ rfl rfl rfl) T.agg3 rfl ?_
                exact awl_nil ⟨rfl, post_put⟩⟩⟩
            , ⟨_, rfl, fun sl hd hr ho => by
                refine r_move (hr 9 _ rfl rfl rfl) rfl ?_
                exact awl_nil ⟨rfl, post_put⟩⟩⟩
            , ⟨_, rfl, fun sl hd hr ho => by
                refine r_move (hr 11 _ rfl rfl rfl) rfl ?_
                exact awl_nil ⟨rfl, post_put⟩⟩⟩
            , ⟨_, rfl, fun sl hd hr ho => by
                refine r_index (hd 6 _ rfl rfl rfl) rfl (hd 7 _ rfl rfl rfl) T.sl22 T.sz35 (by omega) (by rw [show ((k : Int) + 1).toNat = k + 1 by omega]; exact get_map hy) rfl ?_
                exact awl_nil ⟨rfl, post_put⟩⟩⟩
            , ⟨_, rfl, fun sl hd hr ho => by
                first | (refine r_fieldcp (hd 8 _ rfl rfl rfl) T.f35_0 T.sz3 rfl ?_) | (refine r_fieldb (hd 8 _ rfl rfl rfl) T.f35_0 T.sz3 rfl ?_)
                exact awl_nil ⟨rfl, post_put⟩⟩⟩
            , ⟨_, rfl, fun sl hd hr ho => by
                refine r_load1 (hd 9 _ rfl rfl rfl) T.agg3 rfl ?_
                exact awl_nil ⟨rfl, post_put⟩⟩⟩
            , ⟨_, rfl, fun sl hd hr ho => by
                refine r_cmp (hd 5 _ rfl rfl rfl) (hd 10 _ rfl rfl rfl) rfl rfl ?_
                exact awl_nil ⟨rfl, post_put⟩⟩⟩
            , ⟨_, rfl, fun sl hd hr ho => by
                refine r_move (hd 11 _ rfl rfl rfl) rfl ?_
                exact awl_nil ⟨rfl, post_put⟩⟩⟩
            , ⟨_, rfl, fun sl hd hr ho => by
                refine g_run rfl (hd 12 _ rfl rfl rfl) (decide_eq_false (by show ¬ (x.vol > y.vol); omega)) ?_
                refine r_move (hr 9 _ rfl rfl rfl) rfl ?_
                exact awl_nil ⟨rfl, post_put⟩⟩⟩
            , ⟨_, rfl, fun sl hd hr ho => by
                refine g_run rfl (hd 12 _ rfl rfl rfl) (decide_eq_false (by show ¬ (x.vol > y.vol); omega)) ?_
                refine r_move (hr 11 _ rfl rfl rfl) rfl ?_
                exact awl_nil ⟨rfl, post_put⟩⟩⟩
            , ⟨_, rfl, fun sl hd hr ho => by
                refine g_run rfl (hd 12 _ rfl rfl rfl) (decide_eq_false (by show ¬ (x.vol > y.vol); omega)) ?_
                refine r_ari _ (hd 14 _ rfl rfl rfl) rfl rfl (wrap_id (by first | omega | (simp; omega))) rfl ?_
                exact awl_nil ⟨rfl, post_put⟩⟩⟩
            , ⟨_, rfl, fun sl hd hr ho => by
                refine g_run rfl (hd 12 _ rfl rfl rfl) (decide_eq_false (by show ¬ (x.vol > y.vol); omega)) ?_
                refine r_index (hd 13 _ rfl rfl rfl) rfl (hd 15 _ rfl rfl rfl) T.sl22 T.sz35 (by omega) (by rw [show ((k : Int) + 1 - 1).toNat = k by omega]; exact get_map hx) rfl ?_
                exact awl_nil ⟨rfl, post_put⟩⟩⟩
            , ⟨_, rfl, fun sl hd hr ho => by
                refine g_run rfl (hd 12 _ rfl rfl rfl) (decide_eq_false (by show ¬ (x.vol > y.vol); omega)) ?_
                first | (refine r_fieldcp (hd 16 _ rfl rfl rfl) T.f35_0 T.sz3 rfl ?_) | (refine r_fieldb (hd 16 _ rfl rfl rfl) T.f35_0 T.sz3 rfl ?_)
                exact awl_nil ⟨rfl, post_put⟩⟩⟩
            , ⟨_, rfl, fun sl hd hr ho => by
                refine g_run rfl (hd 12 _ rfl rfl rfl) (decide_eq_false (by show ¬ (x.vol > y.vol); omega)) ?_
                refine r_load1 (hd 17 _ rfl rfl rfl) T.agg3 rfl ?_
                exact awl_nil ⟨rfl, post_put⟩⟩⟩
            , ⟨_, rfl, fun sl hd hr ho => by
                refine g_run rfl (hd 12 _ rfl rfl rfl) (decide_eq_false (by show ¬ (x.vol > y.vol); omega)) ?_
                refine r_move (hr 9 _ rfl rfl rfl) rfl ?_
                exact awl_nil ⟨rfl, post_put⟩⟩⟩
            , ⟨_, rfl, fun sl hd hr ho => by
                refine g_run rfl (hd 12 _ rfl rfl rfl) (decide_eq_false (by show ¬ (x.vol > y.vol); omega)) ?_
                refine r_move (hr 11 _ rfl rfl rfl) rfl ?_
                exact awl_nil ⟨rfl, post_put⟩⟩⟩
            , ⟨_, rfl, fun sl hd hr ho => by
                refine g_run rfl (hd 12 _ rfl rfl rfl) (decide_eq_false (by show ¬ (x.vol > y.vol); omega)) ?_
                refine r_index (hd 19 _ rfl rfl rfl) rfl (hd 20 _ rfl rfl rfl) T.sl22 T.sz35 (by omega) (by rw [show ((k : Int) + 1).toNat = k + 1 by omega]; exact get_map hy) rfl ?_
                exact awl_nil ⟨rfl, post_put⟩⟩⟩
            , ⟨_, rfl, fun sl hd hr ho => by
                refine g_run rfl (hd 12 _ rfl rfl rfl) (decide_eq_false (by show ¬ (x.vol > y.vol); omega)) ?_
                first | (refine r_fieldcp (hd 21 _ rfl rfl rfl) T.f35_0 T.sz3 rfl ?_) | (refine r_fieldb (hd 21 _ rfl rfl rfl) T.f35_0 T.sz3 rfl ?_)
                exact awl_nil ⟨rfl, post_put⟩⟩⟩
            , ⟨_, rfl, fun sl hd hr ho => by
                refine g_run rfl (hd 12 _ rfl rfl rfl) (decide_eq_false (by show ¬ (x.vol > y.vol); omega)) ?_
                refine r_load1 (hd 22 _ rfl rfl rfl) T.agg3 rfl ?_
                exact awl_nil ⟨rfl, post_put⟩⟩⟩
            , ⟨_, rfl, fun sl hd hr ho => by
                refine g_run rfl (hd 12 _ rfl rfl rfl) (decide_eq_false (by show ¬ (x.vol > y.vol); omega)) ?_
                refine r_cmp (hd 18 _ rfl rfl rfl) (hd 23 _ rfl rfl rfl) rfl rfl ?_
                exact awl_nil ⟨rfl, post_put⟩⟩⟩
            , ⟨_, rfl, fun sl hd hr ho => by
                refine g_run rfl (hd 12 _ rfl rfl rfl) (decide_eq_false (by show ¬ (x.vol > y.vol); omega)) ?_
                refine r_move (hd 24 _ rfl rfl rfl) rfl ?_
                exact awl_nil ⟨rfl, post_put⟩⟩⟩
            , ⟨_, rfl, fun sl hd hr ho => by
                refine g_run rfl (hd 25 _ rfl rfl rfl) hg62 ?_
                refine r_move (hr 9 _ rfl rfl rfl) rfl ?_
                exact awl_nil ⟨rfl, post_put⟩⟩⟩
            , ⟨_, rfl, fun sl hd hr ho => by
                refine g_run rfl (hd 25 _ rfl rfl rfl) hg62 ?_
                refine r_move (hr 11 _ rfl rfl rfl) rfl ?_
                exact awl_nil ⟨rfl, post_put⟩⟩⟩
            , ⟨_, rfl, fun sl hd hr ho => by
                refine g_run rfl (hd 25 _ rfl rfl rfl) hg62 ?_
                refine r_ari _ (hd 27 _ rfl rfl rfl) rfl rfl (wrap_id (by first | omega | (simp; omega))) rfl ?_
                exact awl_nil ⟨rfl, post_put⟩⟩⟩
            , ⟨_, rfl, fun sl hd hr ho => by
                refine g_run rfl (hd 25 _ rfl rfl rfl) hg62 ?_
                refine r_index (hd 26 _ rfl rfl rfl) rfl (hd 28 _ rfl rfl rfl) T.sl22 T.sz35 (by omega) (by rw [show ((k : Int) + 1 - 1).toNat = k by omega]; exact get_map hx) rfl ?_
                exact awl_nil ⟨rfl, post_put⟩⟩⟩
            , ⟨_, rfl, fun sl hd hr ho => by
                refine g_run rfl (hd 25 _ rfl rfl rfl) hg62 ?_
                first | (refine r_fieldcp (hd 29 _ rfl rfl rfl) T.f35_1 T.sz3 rfl ?_) | (refine r_fieldb (hd 29 _ rfl rfl rfl) T.f35_1 T.sz3 rfl ?_)
                exact awl_nil ⟨rfl, post_put⟩⟩⟩
            , ⟨_, rfl, fun sl hd hr ho => by
                refine g_run rfl (hd 25 _ rfl rfl rfl) hg62 ?_
                refine r_load1 (hd 30 _ rfl rfl rfl) T.agg3 rfl ?_
                exact awl_nil ⟨rfl, post_put⟩⟩⟩
            , ⟨_, rfl, fun sl hd hr ho => by
                refine g_run rfl (hd 25 _ rfl rfl rfl) hg62 ?_
                refine r_move (hr 9 _ rfl rfl rfl) rfl ?_
                exact awl_nil ⟨rfl, post_put⟩⟩⟩
            , ⟨_, rfl, fun sl hd hr ho => by
                refine g_run rfl (hd 25 _ rfl rfl rfl) hg62 ?_
                refine r_move (hr 11 _ rfl rfl rfl) rfl ?_
                exact awl_nil ⟨rfl, post_put⟩⟩⟩
            , ⟨_, rfl, fun sl hd hr ho => by
                refine g_run rfl (hd 25 _ rfl rfl rfl) hg62 ?_
                refine r_index (hd 32 _ rfl rfl rfl) rfl (hd 33 _ rfl rfl rfl) T.sl22 T.sz35 (by omega) (by rw [show ((k : Int) + 1).toNat = k + 1 by omega]; exact get_map hy) rfl ?_
                exact awl_nil ⟨rfl, post_put⟩⟩⟩
            , ⟨_, rfl, fun sl hd hr ho => by
                refine g_run rfl (hd 25 _ rfl rfl rfl) hg62 ?_
                first | (refine r_fieldcp (hd 34 _ rfl rfl rfl) T.f35_1 T.sz3 rfl ?_) | (refine r_fieldb (hd 34 _ rfl rfl rfl) T.f35_1 T.sz3 rfl ?_)
                exact awl_nil ⟨rfl, post_put⟩⟩⟩
            , ⟨_, rfl, fun sl hd hr ho => by
                refine g_run rfl (hd 25 _ rfl rfl rfl) hg62 ?_
                refine r_load1 (hd 35 _ rfl rfl rfl) T.agg3 rfl ?_
                exact awl_nil ⟨rfl, post_put⟩⟩⟩
            (by rfl) ?_
          refine g_run rfl rfl hg62 ?_
          refine r_cmp rfl rfl rfl rfl ?_
          refine g_run rfl rfl (decide_eq_false (by show ¬ (x.vol > y.vol); omega)) ?_
          refine r_pickT rfl hg62 rfl rfl ?_
          refine r_pickF rfl (decide_eq_false (by show ¬ (x.vol > y.vol); omega)) rfl rfl ?_
          refine awl_nil ?_
          refine x_then ?_
          refine awp_cond rfl (fun hc3 => ?_) (fun hc3 => ?_)
          ·
            exfalso; have h1 : x.vol = y.vol := eq_of_beq hg62
            have h2 : x.blk ≥ y.blk := of_decide_eq_true hc3
            omega
          ·
            refine awp_skip ?_
            refine x_block ?_
            refine x_then ?_
            refine awp_region ?_
            refine r_move rfl rfl ?_
            refine r_ari _ rfl rfl rfl (wrap_id (by first | omega | (simp; omega))) rfl ?_
            refine r_assign rfl rfl ?_
            refine awl_nil ?_
            refine x_then ?_
            refine ⟨ts.length - (k + 1), ⟨161, [(0, .a (entsA base)), (1, .a (entsA ours)), (2, .a (entsA theirs)), (9, .a (entsA ts)), (10, .a (clasA cs)), (11, .a (.v (.int .i64 (((k + 1) : Int) + 1))))], []⟩, ⟨rfl, (Slots.cons rfl (by first | exact .refl _ | exact .nilOwn _ _ | exact .nilSl _ | exact .ownSl _ _ _  | exact SV.le.ownEq (by simp) | exact SV.le.of_eq (by simp)) (Slots.cons rfl (by first | exact .refl _ | exact .nilOwn _ _ | exact .nilSl _ | exact .ownSl _ _ _  | exact SV.le.ownEq (by simp) | exact SV.le.of_eq (by simp)) (Slots.cons rfl (by first | exact .refl _ | exact .nilOwn _ _ | exact .nilSl _ | exact .ownSl _ _ _  | exact SV.le.ownEq (by simp) | exact SV.le.of_eq (by simp)) (Slots.cons rfl (by first | exact .refl _ | exact .nilOwn _ _ | exact .nilSl _ | exact .ownSl _ _ _  | exact SV.le.ownEq (by simp) | exact SV.le.of_eq (by simp)) (Slots.cons rfl (by first | exact .refl _ | exact .nilOwn _ _ | exact .nilSl _ | exact .ownSl _ _ _  | exact SV.le.ownEq (by simp) | exact SV.le.of_eq (by simp)) (Slots.cons rfl (by first | exact .refl _ | exact .nilOwn _ _ | exact .nilSl _ | exact .ownSl _ _ _  | exact SV.le.ownEq (by simp) | exact SV.le.of_eq (by simp)) Slots.nil)))))), (by first | exact List.Sublist.refl _ | exact .cons_cons _ (.cons _ (.refl _)) | exact List.nil_sublist _ | exact .cons _ (.refl _) | exact .cons _ (.cons _ (.refl _)) | exact .cons _ (.cons _ (.cons _ (.refl _))) | exact .cons _ (.cons _ (.cons _ (.cons _ (.refl _)))) | exact .cons_cons _ (List.nil_sublist _))⟩, (by omega), ⟨k + 1, rfl, rfl, (by omega)⟩⟩
        ·
          refine awp_drawS [37, 38, 39, 40, 41, 42, 43, 44, 45, 46, 47, 48, 49, 50, 51, 52, 53, 54, 55, 56, 57, 58, 59, 60, 61, 62, 63, 64, 65, 66, 67, 68, 69, 70, 71, 72, 73] [_, _, _, _, _, _, _, _, _, _, _, _, _, _, _, _, _, _, _, _, _, _, _, _, _, _, _, _, _, _, _, _, _, _, _, _, _] [] [] T.mixed rfl rfl rfl ⟨⟨⟨⟨⟨⟨⟨⟨⟨⟨⟨⟨⟨⟨⟨⟨⟨⟨⟨⟨⟨⟨⟨⟨⟨⟨⟨⟨⟨⟨⟨⟨⟨⟨⟨⟨⟨trivial
            , ⟨_, rfl, fun sl hd hr ho => by
                refine r_move (hr 9 _ rfl rfl rfl) rfl ?_
                exact awl_nil ⟨rfl, post_put⟩⟩⟩
            , ⟨_, rfl, fun sl hd hr ho => by
                refine r_move (hr 11 _ rfl rfl rfl) rfl ?_
                exact awl_nil ⟨rfl, post_put⟩⟩⟩
            , ⟨_, rfl, fun sl hd hr ho => by
                refine r_ari _ (hd 1 _ rfl rfl rfl) rfl rfl (wrap_id (by first | omega | (simp; omega))) rfl ?_
                exact awl_nil ⟨rfl, post_put⟩⟩⟩
            , ⟨_, rfl, fun sl hd hr ho => by
                refine r_index (hd 0 _ rfl rfl rfl) rfl (hd 2 _ rfl rfl rfl) T.sl22 T.sz35 (by omega) (by rw [show ((k : Int) + 1 - 1).toNat = k by omega]; exact get_map hx) rfl ?_
                exact awl_nil ⟨rfl, post_put⟩⟩⟩
            , ⟨_, rfl, fun sl hd hr ho => by
                first | (refine r_fieldcp (hd 3 _ rfl rfl rfl) T.f35_0 T.sz3 rfl ?_) | (refine r_fieldb (hd 3 _ rfl rfl rfl) T.f35_0 T.sz3 rfl ?_)
                exact awl_nil ⟨rfl, post_put⟩⟩⟩
            , ⟨_, rfl, fun sl hd hr ho => by
                refine r_load1 (hd 4 _ rfl rfl rfl) T.agg3 rfl ?_
                exact awl_nil ⟨rfl, post_put⟩⟩⟩
            , ⟨_, rfl, fun sl hd hr ho => by
                refine r_move (hr 9 _ rfl rfl rfl) rfl ?_
                exact awl_nil ⟨rfl, post_put⟩⟩⟩
            , ⟨_, rfl, fun sl hd hr ho => by
                refine r_move (hr 11 _ rfl rfl rfl) rfl ?_
                exact awl_nil ⟨rfl, post_put⟩⟩⟩
            , ⟨_, rfl, fun sl hd hr ho => by
                refine r_index (hd 6 _ rfl rfl rfl) rfl (hd 7 _ rfl rfl rfl) T.sl22 T.sz35 (by omega) (by rw [show ((k : Int) + 1).toNat = k + 1 by omega]; exact get_map hy) rfl ?_
                exact awl_nil ⟨rfl, post_put⟩⟩⟩
            , ⟨_, rfl, fun sl hd hr ho => by
                first | (refine r_fieldcp (hd 8 _ rfl rfl rfl) T.f35_0 T.sz3 rfl ?_) | (refine r_fieldb (hd 8 _ rfl rfl rfl) T.f35_0 T.sz3 rfl ?_)
                exact awl_nil ⟨rfl, post_put⟩⟩⟩
            , ⟨_, rfl, fun sl hd hr ho => by
                refine r_load1 (hd 9 _ rfl rfl rfl) T.agg3 rfl ?_
                exact awl_nil ⟨rfl, post_put⟩⟩⟩
            , ⟨_, rfl, fun sl hd hr ho => by
                refine r_cmp (hd 5 _ rfl rfl rfl) (hd 10 _ rfl rfl rfl) rfl rfl ?_
                exact awl_nil ⟨rfl, post_put⟩⟩⟩
            , ⟨_, rfl, fun sl hd hr ho => by
                refine r_move (hd 11 _ rfl rfl rfl) rfl ?_
                exact awl_nil ⟨rfl, post_put⟩⟩⟩
            , ⟨_, rfl, fun sl hd hr ho => by
                refine g_run rfl (hd 12 _ rfl rfl rfl) (decide_eq_false (by show ¬ (x.vol > y.vol); omega)) ?_
                refine r_move (hr 9 _ rfl rfl rfl) rfl ?_
                exact awl_nil ⟨rfl, post_put⟩⟩⟩
            , ⟨_, rfl, fun sl hd hr ho => by
                refine g_run rfl (hd 12 _ rfl rfl rfl) (decide_eq_false (by show ¬ (x.vol > y.vol); omega)) ?_
                refine r_move (hr 11 _ rfl rfl rfl) rfl ?_
                exact awl_nil ⟨rfl, post_put⟩⟩⟩
            , ⟨_, rfl, fun sl hd hr ho => by
                refine g_run rfl (hd 12 _ rfl rfl rfl) (decide_eq_false (by show ¬ (x.vol > y.vol); omega)) ?_
                refine r_ari _ (hd 14 _ rfl rfl rfl) rfl rfl (wrap_id (by first | omega | (simp; omega))) rfl ?_
                exact awl_nil ⟨rfl, post_put⟩⟩⟩
            , ⟨_, rfl, fun sl hd hr ho => by
                refine g_run rfl (hd 12 _ rfl rfl rfl) (decide_eq_false (by show ¬ (x.vol > y.vol); omega)) ?_
                refine r_index (hd 13 _ rfl rfl rfl) rfl (hd 15 _ rfl rfl rfl) T.sl22 T.sz35 (by omega) (by rw [show ((k : Int) + 1 - 1).toNat = k by omega]; exact get_map hx) rfl ?_
                exact awl_nil ⟨rfl, post_put⟩⟩⟩
            , ⟨_, rfl, fun sl hd hr ho => by
                refine g_run rfl (hd 12 _ rfl rfl rfl) (decide_eq_false (by show ¬ (x.vol > y.vol); omega)) ?_
                first | (refine r_fieldcp (hd 16 _ rfl rfl rfl) T.f35_0 T.sz3 rfl ?_) | (refine r_fieldb (hd 16 _ rfl rfl rfl) T.f35_0 T.sz3 rfl ?_)
                exact awl_nil ⟨rfl, post_put⟩⟩⟩
            , ⟨_, rfl, fun sl hd hr ho => by
                refine g_run rfl (hd 12 _ rfl rfl rfl) (decide_eq_false (by show ¬ (x.vol > y.vol); omega)) ?_
                refine r_load1 (hd 17 _ rfl rfl rfl) T.agg3 rfl ?_
                exact awl_nil ⟨rfl, post_put⟩⟩⟩
            , ⟨_, rfl, fun sl hd hr ho => by
                refine g_run rfl (hd 12 _ rfl rfl rfl) (decide_eq_false (by show ¬ (x.vol > y.vol); omega)) ?_
                refine r_move (hr 9 _ rfl rfl rfl) rfl ?_
                exact awl_nil ⟨rfl, post_put⟩⟩⟩
            , ⟨_, rfl, fun sl hd hr ho => by
                refine g_run rfl (hd 12 _ rfl rfl rfl) (decide_eq_false (by show ¬ (x.vol > y.vol); omega)) ?_
                refine r_move (hr 11 _ rfl rfl rfl) rfl ?_
                exact awl_nil ⟨rfl, post_put⟩⟩⟩
            , ⟨_, rfl, fun sl hd hr ho => by
                refine g_run rfl (hd 12 _ rfl rfl rfl) (decide_eq_false (by show ¬ (x.vol > y.vol); omega)) ?_
                refine r_index (hd 19 _ rfl rfl rfl) rfl (hd 20 _ rfl rfl rfl) T.sl22 T.sz35 (by omega) (by rw [show ((k : Int) + 1).toNat = k + 1 by omega]; exact get_map hy) rfl ?_
                exact awl_nil ⟨rfl, post_put⟩⟩⟩
            , ⟨_, rfl, fun sl hd hr ho => by
                refine g_run rfl (hd 12 _ rfl rfl rfl) (decide_eq_false (by show ¬ (x.vol > y.vol); omega)) ?_
                first | (refine r_fieldcp (hd 21 _ rfl rfl rfl) T.f35_0 T.sz3 rfl ?_) | (refine r_fieldb (hd 21 _ rfl rfl rfl) T.f35_0 T.sz3 rfl ?_)
                exact awl_nil ⟨rfl, post_put⟩⟩⟩
            , ⟨_, rfl, fun sl hd hr ho => by
                refine g_run rfl (hd 12 _ rfl rfl rfl) (decide_eq_false (by show ¬ (x.vol > y.vol); omega)) ?_
                refine r_load1 (hd 22 _ rfl rfl rfl) T.agg3 rfl ?_
                exact awl_nil ⟨rfl, post_put⟩⟩⟩
            , ⟨_, rfl, fun sl hd hr ho => by
                refine g_run rfl (hd 12 _ rfl rfl rfl) (decide_eq_false (by show ¬ (x.vol > y.vol); omega)) ?_
                refine r_cmp (hd 18 _ rfl rfl rfl) (hd 23 _ rfl rfl rfl) rfl rfl ?_
                exact awl_nil ⟨rfl, post_put⟩⟩⟩
            , ⟨_, rfl, fun sl hd hr ho => by
                refine g_run rfl (hd 12 _ rfl rfl rfl) (decide_eq_false (by show ¬ (x.vol > y.vol); omega)) ?_
                refine r_move (hd 24 _ rfl rfl rfl) rfl ?_
                exact awl_nil ⟨rfl, post_put⟩⟩⟩
            , ⟨_, rfl, fun sl hd hr ho => by
                refine g_skip rfl (hd 25 _ rfl rfl rfl) hg62 rfl ?_
                exact awl_nil ⟨rfl, post_put⟩⟩⟩
            , ⟨_, rfl, fun sl hd hr ho => by
                refine g_skip rfl (hd 25 _ rfl rfl rfl) hg62 rfl ?_
                exact awl_nil ⟨rfl, post_put⟩⟩⟩
            , ⟨_, rfl, fun sl hd hr ho => by
                refine g_skip rfl (hd 25 _ rfl rfl rfl) hg62 rfl ?_
                exact awl_nil ⟨rfl, post_put⟩⟩⟩
            , ⟨_, rfl, fun sl hd hr ho => by
                refine g_skip rfl (hd 25 _ rfl rfl rfl) hg62 rfl ?_
                exact awl_nil ⟨rfl, post_put⟩⟩⟩
            , ⟨_, rfl, fun sl hd hr ho => by
                refine g_skip rfl (hd 25 _ rfl rfl rfl) hg62 rfl ?_
                exact awl_nil ⟨rfl, post_put⟩⟩⟩
            , ⟨_, rfl, fun sl hd hr ho => by
                refine g_skip rfl (hd 25 _ rfl rfl rfl) hg62 rfl ?_
                exact awl_nil ⟨rfl, post_put⟩⟩⟩
            , ⟨_, rfl, fun sl hd hr ho => by
                refine g_skip rfl (hd 25 _ rfl rfl rfl) hg62 rfl ?_
                exact awl_nil ⟨rfl, post_put⟩⟩⟩
            , ⟨_, rfl, fun sl hd hr ho => by
                refine g_skip rfl (hd 25 _ rfl rfl rfl) hg62 rfl ?_
                exact awl_nil ⟨rfl, post_put⟩⟩⟩
            , ⟨_, rfl, fun sl hd hr ho => by
                refine g_skip rfl (hd 25 _ rfl rfl rfl) hg62 rfl ?_
                exact awl_nil ⟨rfl, post_put⟩⟩⟩
            , ⟨_, rfl, fun sl hd hr ho => by
                refine g_skip rfl (hd 25 _ rfl rfl rfl) hg62 rfl ?_
                exact awl_nil ⟨rfl, post_put⟩⟩⟩
            , ⟨_, rfl, fun sl hd hr ho => by
                refine g_skip rfl (hd 25 _ rfl rfl rfl) hg62 rfl ?_
                exact awl_nil ⟨rfl, post_put⟩⟩⟩
            (by rfl) ?_
          refine g_skip rfl rfl hg62 rfl ?_
          refine g_run rfl rfl (decide_eq_false (by show ¬ (x.vol > y.vol); omega)) ?_
          refine r_pickF rfl hg62 rfl rfl ?_
          refine r_pickF rfl (decide_eq_false (by show ¬ (x.vol > y.vol); omega)) rfl rfl ?_
          refine awl_nil ?_
          refine x_then ?_
          refine awp_condF rfl ?_
          refine awp_skip ?_
          refine x_block ?_
          refine x_then ?_
          refine awp_region ?_
          refine r_move rfl rfl ?_
          refine r_ari _ rfl rfl rfl (wrap_id (by first | omega | (simp; omega))) rfl ?_
          refine r_assign rfl rfl ?_
          refine awl_nil ?_
          refine x_then ?_
          refine ⟨ts.length - (k + 1), ⟨161, [(0, .a (entsA base)), (1, .a (entsA ours)), (2, .a (entsA theirs)), (9, .a (entsA ts)), (10, .a (clasA cs)), (11, .a (.v (.int .i64 (((k + 1) : Int) + 1))))], []⟩, ⟨rfl, (Slots.cons rfl (by first | exact .refl _ | exact .nilOwn _ _ | exact .nilSl _ | exact .ownSl _ _ _  | exact SV.le.ownEq (by simp) | exact SV.le.of_eq (by simp)) (Slots.cons rfl (by first | exact .refl _ | exact .nilOwn _ _ | exact .nilSl _ | exact .ownSl _ _ _  | exact SV.le.ownEq (by simp) | exact SV.le.of_eq (by simp)) (Slots.cons rfl (by first | exact .refl _ | exact .nilOwn _ _ | exact .nilSl _ | exact .ownSl _ _ _  | exact SV.le.ownEq (by simp) | exact SV.le.of_eq (by simp)) (Slots.cons rfl (by first | exact .refl _ | exact .nilOwn _ _ | exact .nilSl _ | exact .ownSl _ _ _  | exact SV.le.ownEq (by simp) | exact SV.le.of_eq (by simp)) (Slots.cons rfl (by first | exact .refl _ | exact .nilOwn _ _ | exact .nilSl _ | exact .ownSl _ _ _  | exact SV.le.ownEq (by simp) | exact SV.le.of_eq (by simp)) (Slots.cons rfl (by first | exact .refl _ | exact .nilOwn _ _ | exact .nilSl _ | exact .ownSl _ _ _  | exact SV.le.ownEq (by simp) | exact SV.le.of_eq (by simp)) Slots.nil)))))), (by first | exact List.Sublist.refl _ | exact .cons_cons _ (.cons _ (.refl _)) | exact List.nil_sublist _ | exact .cons _ (.refl _) | exact .cons _ (.cons _ (.refl _)) | exact .cons _ (.cons _ (.cons _ (.refl _))) | exact .cons _ (.cons _ (.cons _ (.cons _ (.refl _)))) | exact .cons_cons _ (List.nil_sublist _))⟩, (by omega), ⟨k + 1, rfl, rfl, (by omega)⟩⟩
      ·
        refine awp_exit ?_
        refine x_thenE ?_
        refine x_thenE ?_
        refine x_blockE ?_
        refine x_then ?_
        refine awp_seq ?_
        refine awp_seq ?_
        refine awp_region ?_
        refine r_assign rfl rfl ?_
        refine awl_nil ?_
        refine x_then ?_
        refine awp_block ?_
        refine awp_loop (fun nn0 S => ∃ k : Nat, S = ⟨161, [(0, .a (entsA base)), (1, .a (entsA ours)), (2, .a (entsA theirs)), (9, .a (entsA ts)), (10, .a (clasA cs)), (12, .a (.v (.int .i64 ((k : Int) + 1))))], []⟩ ∧ nn0 = cs.length - k ∧ (k ≤ cs.length)) (cs.length - (0)) ⟨161, [(0, .a (entsA base)), (1, .a (entsA ours)), (2, .a (entsA theirs)), (9, .a (entsA ts)), (10, .a (clasA cs)), (12, .a (.v (.int .i64 (((0) : Int) + 1))))], []⟩ ⟨rfl, (Slots.cons rfl (by first | exact .refl _ | exact .nilOwn _ _ | exact .nilSl _ | exact .ownSl _ _ _  | exact SV.le.ownEq (by simp) | exact SV.le.of_eq (by simp)) (Slots.cons rfl (by first | exact .refl _ | exact .nilOwn _ _ | exact .nilSl _ | exact .ownSl _ _ _  | exact SV.le.ownEq (by simp) | exact SV.le.of_eq (by simp)) (Slots.cons rfl (by first | exact .refl _ | exact .nilOwn _ _ | exact .nilSl _ | exact .ownSl _ _ _  | exact SV.le.ownEq (by simp) | exact SV.le.of_eq (by simp)) (Slots.cons rfl (by first | exact .refl _ | exact .nilOwn _ _ | exact .nilSl _ | exact .ownSl _ _ _  | exact SV.le.ownEq (by simp) | exact SV.le.of_eq (by simp)) (Slots.cons rfl (by first | exact .refl _ | exact .nilOwn _ _ | exact .nilSl _ | exact .ownSl _ _ _  | exact SV.le.ownEq (by simp) | exact SV.le.of_eq (by simp)) (Slots.cons rfl (by first | exact .refl _ | exact .nilOwn _ _ | exact .nilSl _ | exact .ownSl _ _ _  | exact SV.le.ownEq (by simp) | exact SV.le.of_eq (by simp)) Slots.nil)))))), (by first | exact List.Sublist.refl _ | exact .cons_cons _ (.cons _ (.refl _)) | exact List.nil_sublist _ | exact .cons _ (.refl _) | exact .cons _ (.cons _ (.refl _)) | exact .cons _ (.cons _ (.cons _ (.refl _))) | exact .cons _ (.cons _ (.cons _ (.cons _ (.refl _)))) | exact .cons_cons _ (List.nil_sublist _))⟩ ⟨0, rfl, rfl, Nat.zero_le _⟩ ?_
        rintro nn0 _ ⟨k, rfl, rfl, hk⟩
        refine awp_seq ?_
        refine awp_seq ?_
        refine awp_region ?_
        refine r_move rfl rfl ?_
        refine r_move rfl rfl ?_
        first | (refine r_lenS rfl rfl T.sl26 rfl ?_) | (refine r_lenNil rfl T.sl26 rfl ?_)
        refine r_cmp rfl rfl rfl rfl ?_
        refine awl_nil ?_
        refine x_then ?_
        refine awp_cond rfl (fun hc4 => ?_) (fun hc4 => ?_)
        ·
          have hlt : k + 1 < cs.length := by have := of_decide_eq_true hc4; simp at this; omega
          obtain ⟨x, hx⟩ := get_lt (show k < cs.length by omega)
          obtain ⟨y, hy⟩ := get_lt hlt
          have hxy := pw_step hs2 hx hy
          rw [ltP_iff] at hxy
          have hxy' : x.vol < y.vol ∨ (x.vol = y.vol ∧ x.blk < y.blk) := hxy
          refine awp_skip ?_
          refine x_then ?_
          refine awp_seq ?_
          refine awp_block ?_
          refine awp_seq ?_
          rcases Bool.eq_false_or_eq_true (x.vol == y.vol) with hg108 | hg108
          ·
            refine awp_drawS [83, 84, 85, 86, 87, 88, 89, 90, 91, 92, 93, 94, 95, 96, 97, 98, 99, 100, 101, 102, 103, 104, 105, 106, 107, 108, 109, 110, 111, 112, 113, 114, 115, 116, 117, 118, 119] [_, _, _, _, _, _, _, _, _, _, _, _, _, _, _, _, _, _, _, _, _, _, _, _, _, _, _, _, _, _, _, _, _, _, _, _, _] [] [] T.mixed rfl rfl rfl ⟨⟨⟨⟨⟨⟨⟨⟨⟨⟨⟨⟨⟨⟨⟨⟨⟨⟨⟨⟨⟨⟨⟨⟨⟨⟨⟨⟨⟨⟨⟨⟨⟨⟨⟨⟨⟨trivial
              , ⟨_, rfl, fun sl hd hr ho => by
                  refine r_move (hr 10 _ rfl rfl rfl) rfl ?_
                  exact awl_nil ⟨rfl, post_put⟩⟩⟩
              , ⟨_, rfl, fun sl hd hr ho => by
                  refine r_move (hr 12 _ rfl rfl rfl) rfl ?_
                  exact awl_nil ⟨rfl, post_put⟩⟩⟩
              , ⟨_, rfl, fun sl hd hr ho => by
                  refine r_ari _ (hd 1 _ rfl rfl rfl) rfl rfl (wrap_id (by first | omega | (simp; omega))) rfl ?_
                  exact awl_nil ⟨rfl, post_put⟩⟩⟩
              , ⟨_, rfl, fun sl hd hr ho => by
                  refine r_index (hd 0 _ rfl rfl rfl) rfl (hd 2 _ rfl rfl rfl) T.sl26 T.sz37 (by omega) (by rw [show ((k : Int) + 1 - 1).toNat = k by omega]; exact get_map hx) rfl ?_
                  exact awl_nil ⟨rfl, post_put⟩⟩⟩
              , ⟨_, rfl, fun sl hd hr ho => by
                  first | (refine r_fieldcp (hd 3 _ rfl rfl rfl) T.f37_0 T.sz3 rfl ?_) | (refine r_fieldb (hd 3 _ rfl rfl rfl) T.f37_0 T.sz3 rfl ?_)
                  exact awl_nil ⟨rfl, post_put⟩⟩⟩
              , ⟨_, rfl, fun sl hd hr ho => by
                  refine r_load1 (hd 4 _ rfl rfl rfl) T.agg3 rfl ?_
                  exact awl_nil ⟨rfl, post_put⟩⟩⟩
              , ⟨_, rfl, fun sl hd hr ho => by
                  refine r_move (hr 10 _ rfl rfl rfl) rfl ?_
                  exact awl_nil ⟨rfl, post_put⟩⟩⟩
              , ⟨_, rfl, fun sl hd hr ho => by
                  refine r_move (hr 12 _ rfl rfl rfl) rfl ?_
                  exact awl_nil ⟨rfl, post_put⟩⟩⟩
              , ⟨_, rfl, fun sl hd hr ho => by
                  refine r_index (hd 6 _ rfl rfl rfl) rfl (hd 7 _ rfl rfl rfl) T.sl26 T.sz37 (by omega) (by rw [show ((k : Int) + 1).toNat = k + 1 by omega]; exact get_map hy) rfl ?_
                  exact awl_nil ⟨rfl, post_put⟩⟩⟩
              , ⟨_, rfl, fun sl hd hr ho => by
                  first | (refine r_fieldcp (hd 8 _ rfl rfl rfl) T.f37_0 T.sz3 rfl ?_) | (refine r_fieldb (hd 8 _ rfl rfl rfl) T.f37_0 T.sz3 rfl ?_)
                  exact awl_nil ⟨rfl, post_put⟩⟩⟩
              , ⟨_, rfl, fun sl hd hr ho => by
                  refine r_load1 (hd 9 _ rfl rfl rfl) T.agg3 rfl ?_
                  exact awl_nil ⟨rfl, post_put⟩⟩⟩
              , ⟨_, rfl, fun sl hd hr ho => by
                  refine r_cmp (hd 5 _ rfl rfl rfl) (hd 10 _ rfl rfl rfl) rfl rfl ?_
                  exact awl_nil ⟨rfl, post_put⟩⟩⟩
              , ⟨_, rfl, fun sl hd hr ho => by
                  refine r_move (hd 11 _ rfl rfl rfl) rfl ?_
                  exact awl_nil ⟨rfl, post_put⟩⟩⟩
              , ⟨_, rfl, fun sl hd hr ho => by
                  refine g_run rfl (hd 12 _ rfl rfl rfl) (decide_eq_false (by show ¬ (x.vol > y.vol); omega)) ?_
                  refine r_move (hr 10 _ rfl rfl rfl) rfl ?_
                  exact awl_nil ⟨rfl, post_put⟩⟩⟩
              , ⟨_, rfl, fun sl hd hr ho => by
                  refine g_run rfl (hd 12 _ rfl rfl rfl) (decide_eq_false (by show ¬ (x.vol > y.vol); omega)) ?_
                  refine r_move (hr 12 _ rfl rfl rfl) rfl ?_
                  exact awl_nil ⟨rfl, post_put⟩⟩⟩
              , ⟨_, rfl, fun sl hd hr ho => by
                  refine g_run rfl (hd 12 _ rfl rfl rfl) (decide_eq_false (by show ¬ (x.vol > y.vol); omega)) ?_
                  refine r_ari _ (hd 14 _ rfl rfl rfl) rfl rfl (wrap_id (by first | omega | (simp; omega))) rfl ?_
                  exact awl_nil ⟨rfl, post_put⟩⟩⟩
              , ⟨_, rfl, fun sl hd hr ho => by
                  refine g_run rfl (hd 12 _ rfl rfl rfl) (decide_eq_false (by show ¬ (x.vol > y.vol); omega)) ?_
                  refine r_index (hd 13 _ rfl rfl rfl) rfl (hd 15 _ rfl rfl rfl) T.sl26 T.sz37 (by omega) (by rw [show ((k : Int) + 1 - 1).toNat = k by omega]; exact get_map hx) rfl ?_
                  exact awl_nil ⟨rfl, post_put⟩⟩⟩
              , ⟨_, rfl, fun sl hd hr ho => by
                  refine g_run rfl (hd 12 _ rfl rfl rfl) (decide_eq_false (by show ¬ (x.vol > y.vol); omega)) ?_
                  first | (refine r_fieldcp (hd 16 _ rfl rfl rfl) T.f37_0 T.sz3 rfl ?_) | (refine r_fieldb (hd 16 _ rfl rfl rfl) T.f37_0 T.sz3 rfl ?_)
                  exact awl_nil ⟨rfl, post_put⟩⟩⟩
              , ⟨_, rfl, fun sl hd hr ho => by
                  refine g_run rfl (hd 12 _ rfl rfl rfl) (decide_eq_false (by show ¬ (x.vol > y.vol); omega)) ?_
                  refine r_load1 (hd 17 _ rfl rfl rfl) T.agg3 rfl ?_
                  exact awl_nil ⟨rfl, post_put⟩⟩⟩
              , ⟨_, rfl, fun sl hd hr ho => by
                  refine g_run rfl (hd 12 _ rfl rfl rfl) (decide_eq_false (by show ¬ (x.vol > y.vol); omega)) ?_
                  refine r_move (hr 10 _ rfl rfl rfl) rfl ?_
                  exact awl_nil ⟨rfl, post_put⟩⟩⟩
              , ⟨_, rfl, fun sl hd hr ho => by
                  refine g_run rfl (hd 12 _ rfl rfl rfl) (decide_eq_false (by show ¬ (x.vol > y.vol); omega)) ?_
                  refine r_move (hr 12 _ rfl rfl rfl) rfl ?_
                  exact awl_nil ⟨rfl, post_put⟩⟩⟩
              , ⟨_, rfl, fun sl hd hr ho => by
                  refine g_run rfl (hd 12 _ rfl rfl rfl) (decide_eq_false (by show ¬ (x.vol > y.vol); omega)) ?_
                  refine r_index (hd 19 _ rfl rfl rfl) rfl (hd 20 _ rfl rfl rfl) T.sl26 T.sz37 (by omega) (by rw [show ((k : Int) + 1).toNat = k + 1 by omega]; exact get_map hy) rfl ?_
                  exact awl_nil ⟨rfl, post_put⟩⟩⟩
              , ⟨_, rfl, fun sl hd hr ho => by
                  refine g_run rfl (hd 12 _ rfl rfl rfl) (decide_eq_false (by show ¬ (x.vol > y.vol); omega)) ?_
                  first | (refine r_fieldcp (hd 21 _ rfl rfl rfl) T.f37_0 T.sz3 rfl ?_) | (refine r_fieldb (hd 21 _ rfl rfl rfl) T.f37_0 T.sz3 rfl ?_)
                  exact awl_nil ⟨rfl, post_put⟩⟩⟩
              , ⟨_, rfl, fun sl hd hr ho => by
                  refine g_run rfl (hd 12 _ rfl rfl rfl) (decide_eq_false (by show ¬ (x.vol > y.vol); omega)) ?_
                  refine r_load1 (hd 22 _ rfl rfl rfl) T.agg3 rfl ?_
                  exact awl_nil ⟨rfl, post_put⟩⟩⟩
              , ⟨_, rfl, fun sl hd hr ho => by
                  refine g_run rfl (hd 12 _ rfl rfl rfl) (decide_eq_false (by show ¬ (x.vol > y.vol); omega)) ?_
                  refine r_cmp (hd 18 _ rfl rfl rfl) (hd 23 _ rfl rfl rfl) rfl rfl ?_
                  exact awl_nil ⟨rfl, post_put⟩⟩⟩
              , ⟨_, rfl, fun sl hd hr ho => by
                  refine g_run rfl (hd 12 _ rfl rfl rfl) (decide_eq_false (by show ¬ (x.vol > y.vol); omega)) ?_
                  refine r_move (hd 24 _ rfl rfl rfl) rfl ?_
                  exact awl_nil ⟨rfl, post_put⟩⟩⟩
              , ⟨_, rfl, fun sl hd hr ho => by
                  refine g_run rfl (hd 25 _ rfl rfl rfl) hg108 ?_
                  refine r_move (hr 10 _ rfl rfl rfl) rfl ?_
                  exact awl_nil ⟨rfl, post_put⟩⟩⟩
              , ⟨_, rfl, fun sl hd hr ho => by
                  refine g_run rfl (hd 25 _ rfl rfl rfl) hg108 ?_
                  refine r_move (hr 12 _ rfl rfl rfl) rfl ?_
                  exact awl_nil ⟨rfl, post_put⟩⟩⟩
              , ⟨_, rfl, fun sl hd hr ho => by
                  refine g_run rfl (hd 25 _ rfl rfl rfl) hg108 ?_
                  refine r_ari _ (hd 27 _ rfl rfl rfl) rfl rfl (wrap_id (by first | omega | (simp; omega))) rfl ?_
                  exact awl_nil ⟨rfl, post_put⟩⟩⟩
              , ⟨_, rfl, fun sl hd hr ho => by
                  refine g_run rfl (hd 25 _ rfl rfl rfl) hg108 ?_
                  refine r_index (hd 26 _ rfl rfl rfl) rfl (hd 28 _ rfl rfl rfl) T.sl26 T.sz37 (by omega) (by rw [show ((k : Int) + 1 - 1).toNat = k by omega]; exact get_map hx) rfl ?_
                  exact awl_nil ⟨rfl, post_put⟩⟩⟩
              , ⟨_, rfl, fun sl hd hr ho => by
                  refine g_run rfl (hd 25 _ rfl rfl rfl) hg108 ?_
                  first | (refine r_fieldcp (hd 29 _ rfl rfl rfl) T.f37_1 T.sz3 rfl ?_) | (refine r_fieldb (hd 29 _ rfl rfl rfl) T.f37_1 T.sz3 rfl ?_)
                  exact awl_nil ⟨rfl, post_put⟩⟩⟩
              , ⟨_, rfl, fun sl hd hr ho => by
                  refine g_run rfl (hd 25 _ rfl rfl rfl) hg108 ?_
                  refine r_load1 (hd 30 _ rfl rfl rfl) T.agg3 rfl ?_
                  exact awl_nil ⟨rfl, post_put⟩⟩⟩
              , ⟨_, rfl, fun sl hd hr ho => by
                  refine g_run rfl (hd 25 _ rfl rfl rfl) hg108 ?_
                  refine r_move (hr 10 _ rfl rfl rfl) rfl ?_
                  exact awl_nil ⟨rfl, post_put⟩⟩⟩
              , ⟨_, rfl, fun sl hd hr ho => by
                  refine g_run rfl (hd 25 _ rfl rfl rfl) hg108 ?_
                  refine r_move (hr 12 _ rfl rfl rfl) rfl ?_
                  exact awl_nil ⟨rfl, post_put⟩⟩⟩
              , ⟨_, rfl, fun sl hd hr ho => by
                  refine g_run rfl (hd 25 _ rfl rfl rfl) hg108 ?_
                  refine r_index (hd 32 _ rfl rfl rfl) rfl (hd 33 _ rfl rfl rfl) T.sl26 T.sz37 (by omega) (by rw [show ((k : Int) + 1).toNat = k + 1 by omega]; exact get_map hy) rfl ?_
                  exact awl_nil ⟨rfl, post_put⟩⟩⟩
              , ⟨_, rfl, fun sl hd hr ho => by
                  refine g_run rfl (hd 25 _ rfl rfl rfl) hg108 ?_
                  first | (refine r_fieldcp (hd 34 _ rfl rfl rfl) T.f37_1 T.sz3 rfl ?_) | (refine r_fieldb (hd 34 _ rfl rfl rfl) T.f37_1 T.sz3 rfl ?_)
                  exact awl_nil ⟨rfl, post_put⟩⟩⟩
              , ⟨_, rfl, fun sl hd hr ho => by
                  refine g_run rfl (hd 25 _ rfl rfl rfl) hg108 ?_
                  refine r_load1 (hd 35 _ rfl rfl rfl) T.agg3 rfl ?_
                  exact awl_nil ⟨rfl, post_put⟩⟩⟩
              (by rfl) ?_
            refine g_run rfl rfl hg108 ?_
            refine r_cmp rfl rfl rfl rfl ?_
            refine g_run rfl rfl (decide_eq_false (by show ¬ (x.vol > y.vol); omega)) ?_
            refine r_pickT rfl hg108 rfl rfl ?_
            refine r_pickF rfl (decide_eq_false (by show ¬ (x.vol > y.vol); omega)) rfl rfl ?_
            refine awl_nil ?_
            refine x_then ?_
            refine awp_cond rfl (fun hc5 => ?_) (fun hc5 => ?_)
            ·
              exfalso; have h1 : x.vol = y.vol := eq_of_beq hg108
              have h2 : x.blk ≥ y.blk := of_decide_eq_true hc5
              omega
            ·
              refine awp_skip ?_
              refine x_block ?_
              refine x_then ?_
              refine awp_region ?_
              refine r_move rfl rfl ?_
              refine r_ari _ rfl rfl rfl (wrap_id (by first | omega | (simp; omega))) rfl ?_
              refine r_assign rfl rfl ?_
              refine awl_nil ?_
              refine x_then ?_
              refine ⟨cs.length - (k + 1), ⟨161, [(0, .a (entsA base)), (1, .a (entsA ours)), (2, .a (entsA theirs)), (9, .a (entsA ts)), (10, .a (clasA cs)), (12, .a (.v (.int .i64 (((k + 1) : Int) + 1))))], []⟩, ⟨rfl, (Slots.cons rfl (by first | exact .refl _ | exact .nilOwn _ _ | exact .nilSl _ | exact .ownSl _ _ _  | exact SV.le.ownEq (by simp) | exact SV.le.of_eq (by simp)) (Slots.cons rfl (by first | exact .refl _ | exact .nilOwn _ _ | exact .nilSl _ | exact .ownSl _ _ _  | exact SV.le.ownEq (by simp) | exact SV.le.of_eq (by simp)) (Slots.cons rfl (by first | exact .refl _ | exact .nilOwn _ _ | exact .nilSl _ | exact .ownSl _ _ _  | exact SV.le.ownEq (by simp) | exact SV.le.of_eq (by simp)) (Slots.cons rfl (by first | exact .refl _ | exact .nilOwn _ _ | exact .nilSl _ | exact .ownSl _ _ _  | exact SV.le.ownEq (by simp) | exact SV.le.of_eq (by simp)) (Slots.cons rfl (by first | exact .refl _ | exact .nilOwn _ _ | exact .nilSl _ | exact .ownSl _ _ _  | exact SV.le.ownEq (by simp) | exact SV.le.of_eq (by simp)) (Slots.cons rfl (by first | exact .refl _ | exact .nilOwn _ _ | exact .nilSl _ | exact .ownSl _ _ _  | exact SV.le.ownEq (by simp) | exact SV.le.of_eq (by simp)) Slots.nil)))))), (by first | exact List.Sublist.refl _ | exact .cons_cons _ (.cons _ (.refl _)) | exact List.nil_sublist _ | exact .cons _ (.refl _) | exact .cons _ (.cons _ (.refl _)) | exact .cons _ (.cons _ (.cons _ (.refl _))) | exact .cons _ (.cons _ (.cons _ (.cons _ (.refl _)))) | exact .cons_cons _ (List.nil_sublist _))⟩, (by omega), ⟨k + 1, rfl, rfl, (by omega)⟩⟩
          ·
            refine awp_drawS [83, 84, 85, 86, 87, 88, 89, 90, 91, 92, 93, 94, 95, 96, 97, 98, 99, 100, 101, 102, 103, 104, 105, 106, 107, 108, 109, 110, 111, 112, 113, 114, 115, 116, 117, 118, 119] [_, _, _, _, _, _, _, _, _, _, _, _, _, _, _, _, _, _, _, _, _, _, _, _, _, _, _, _, _, _, _, _, _, _, _, _, _] [] [] T.mixed rfl rfl rfl ⟨⟨⟨⟨⟨⟨⟨⟨⟨⟨⟨⟨⟨⟨⟨⟨⟨⟨⟨⟨⟨⟨⟨⟨⟨⟨⟨⟨⟨⟨⟨⟨⟨⟨⟨⟨⟨trivial
              , ⟨_, rfl, fun sl hd hr ho => by
                  refine r_move (hr 10 _ rfl rfl rfl) rfl ?_
                  exact awl_nil ⟨rfl, post_put⟩⟩⟩
              , ⟨_, rfl, fun sl hd hr ho => by
                  refine r_move (hr 12 _ rfl rfl rfl) rfl ?_
                  exact awl_nil ⟨rfl, post_put⟩⟩⟩
              , ⟨_, rfl, fun sl hd hr ho => by
                  refine r_ari _ (hd 1 _ rfl rfl rfl) rfl rfl (wrap_id (by first | omega | (simp; omega))) rfl ?_
                  exact awl_nil ⟨rfl, post_put⟩⟩⟩
              , ⟨_, rfl, fun sl hd hr ho => by
                  refine r_index (hd 0 _ rfl rfl rfl) rfl (hd 2 _ rfl rfl rfl) T.sl26 T.sz37 (by omega) (by rw [show ((k : Int) + 1 - 1).toNat = k by omega]; exact get_map hx) rfl ?_
                  exact awl_nil ⟨rfl, post_put⟩⟩⟩
              , ⟨_, rfl, fun sl hd hr ho => by
                  first | (refine r_fieldcp (hd 3 _ rfl rfl rfl) T.f37_0 T.sz3 rfl ?_) | (refine r_fieldb (hd 3 _ rfl rfl rfl) T.f37_0 T.sz3 rfl ?_)
                  exact awl_nil ⟨rfl, post_put⟩⟩⟩
              , ⟨_, rfl, fun sl hd hr ho => by
                  refine r_load1 (hd 4 _ rfl rfl rfl) T.agg3 rfl ?_
                  exact awl_nil ⟨rfl, post_put⟩⟩⟩
              , ⟨_, rfl, fun sl hd hr ho => by
                  refine r_move (hr 10 _ rfl rfl rfl) rfl ?_
                  exact awl_nil ⟨rfl, post_put⟩⟩⟩
              , ⟨_, rfl, fun sl hd hr ho => by
                  refine r_move (hr 12 _ rfl rfl rfl) rfl ?_
                  exact awl_nil ⟨rfl, post_put⟩⟩⟩
              , ⟨_, rfl, fun sl hd hr ho => by
                  refine r_index (hd 6 _ rfl rfl rfl) rfl (hd 7 _ rfl rfl rfl) T.sl26 T.sz37 (by omega) (by rw [show ((k : Int) + 1).toNat = k + 1 by omega]; exact get_map hy) rfl ?_
                  exact awl_nil ⟨rfl, post_put⟩⟩⟩
              , ⟨_, rfl, fun sl hd hr ho => by
                  first | (refine r_fieldcp (hd 8 _ rfl rfl rfl) T.f37_0 T.sz3 rfl ?_) | (refine r_fieldb (hd 8 _ rfl rfl rfl) T.f37_0 T.sz3 rfl ?_)
                  exact awl_nil ⟨rfl, post_put⟩⟩⟩
              , ⟨_, rfl, fun sl hd hr ho => by
                  refine r_load1 (hd 9 _ rfl rfl rfl) T.agg3 rfl ?_
                  exact awl_nil ⟨rfl, post_put⟩⟩⟩
              , ⟨_, rfl, fun sl hd hr ho => by
                  refine r_cmp (hd 5 _ rfl rfl rfl) (hd 10 _ rfl rfl rfl) rfl rfl ?_
                  exact awl_nil ⟨rfl, post_put⟩⟩⟩
              , ⟨_, rfl, fun sl hd hr ho => by
                  refine r_move (hd 11 _ rfl rfl rfl) rfl ?_
                  exact awl_nil ⟨rfl, post_put⟩⟩⟩
              , ⟨_, rfl, fun sl hd hr ho => by
                  refine g_run rfl (hd 12 _ rfl rfl rfl) (decide_eq_false (by show ¬ (x.vol > y.vol); omega)) ?_
                  refine r_move (hr 10 _ rfl rfl rfl) rfl ?_
                  exact awl_nil ⟨rfl, post_put⟩⟩⟩
              , ⟨_, rfl, fun sl hd hr ho => by
                  refine g_run rfl (hd 12 _ rfl rfl rfl) (decide_eq_false (by show ¬ (x.vol > y.vol); omega)) ?_
                  refine r_move (hr 12 _ rfl rfl rfl) rfl ?_
                  exact awl_nil ⟨rfl, post_put⟩⟩⟩
              , ⟨_, rfl, fun sl hd hr ho => by
                  refine g_run rfl (hd 12 _ rfl rfl rfl) (decide_eq_false (by show ¬ (x.vol > y.vol); omega)) ?_
                  refine r_ari _ (hd 14 _ rfl rfl rfl) rfl rfl (wrap_id (by first | omega | (simp; omega))) rfl ?_
                  exact awl_nil ⟨rfl, post_put⟩⟩⟩
              , ⟨_, rfl, fun sl hd hr ho => by
                  refine g_run rfl (hd 12 _ rfl rfl rfl) (decide_eq_false (by show ¬ (x.vol > y.vol); omega)) ?_
                  refine r_index (hd 13 _ rfl rfl rfl) rfl (hd 15 _ rfl rfl rfl) T.sl26 T.sz37 (by omega) (by rw [show ((k : Int) + 1 - 1).toNat = k by omega]; exact get_map hx) rfl ?_
                  exact awl_nil ⟨rfl, post_put⟩⟩⟩
              , ⟨_, rfl, fun sl hd hr ho => by
                  refine g_run rfl (hd 12 _ rfl rfl rfl) (decide_eq_false (by show ¬ (x.vol > y.vol); omega)) ?_
                  first | (refine r_fieldcp (hd 16 _ rfl rfl rfl) T.f37_0 T.sz3 rfl ?_) | (refine r_fieldb (hd 16 _ rfl rfl rfl) T.f37_0 T.sz3 rfl ?_)
                  exact awl_nil ⟨rfl, post_put⟩⟩⟩
              , ⟨_, rfl, fun sl hd hr ho => by
                  refine g_run rfl (hd 12 _ rfl rfl rfl) (decide_eq_false (by show ¬ (x.vol > y.vol); omega)) ?_
                  refine r_load1 (hd 17 _ rfl rfl rfl) T.agg3 rfl ?_
                  exact awl_nil ⟨rfl, post_put⟩⟩⟩
              , ⟨_, rfl, fun sl hd hr ho => by
                  refine g_run rfl (hd 12 _ rfl rfl rfl) (decide_eq_false (by show ¬ (x.vol > y.vol); omega)) ?_
                  refine r_move (hr 10 _ rfl rfl rfl) rfl ?_
                  exact awl_nil ⟨rfl, post_put⟩⟩⟩
              , ⟨_, rfl, fun sl hd hr ho => by
                  refine g_run rfl (hd 12 _ rfl rfl rfl) (decide_eq_false (by show ¬ (x.vol > y.vol); omega)) ?_
                  refine r_move (hr 12 _ rfl rfl rfl) rfl ?_
                  exact awl_nil ⟨rfl, post_put⟩⟩⟩
              , ⟨_, rfl, fun sl hd hr ho => by
                  refine g_run rfl (hd 12 _ rfl rfl rfl) (decide_eq_false (by show ¬ (x.vol > y.vol); omega)) ?_
                  refine r_index (hd 19 _ rfl rfl rfl) rfl (hd 20 _ rfl rfl rfl) T.sl26 T.sz37 (by omega) (by rw [show ((k : Int) + 1).toNat = k + 1 by omega]; exact get_map hy) rfl ?_
                  exact awl_nil ⟨rfl, post_put⟩⟩⟩
              , ⟨_, rfl, fun sl hd hr ho => by
                  refine g_run rfl (hd 12 _ rfl rfl rfl) (decide_eq_false (by show ¬ (x.vol > y.vol); omega)) ?_
                  first | (refine r_fieldcp (hd 21 _ rfl rfl rfl) T.f37_0 T.sz3 rfl ?_) | (refine r_fieldb (hd 21 _ rfl rfl rfl) T.f37_0 T.sz3 rfl ?_)
                  exact awl_nil ⟨rfl, post_put⟩⟩⟩
              , ⟨_, rfl, fun sl hd hr ho => by
                  refine g_run rfl (hd 12 _ rfl rfl rfl) (decide_eq_false (by show ¬ (x.vol > y.vol); omega)) ?_
                  refine r_load1 (hd 22 _ rfl rfl rfl) T.agg3 rfl ?_
                  exact awl_nil ⟨rfl, post_put⟩⟩⟩
              , ⟨_, rfl, fun sl hd hr ho => by
                  refine g_run rfl (hd 12 _ rfl rfl rfl) (decide_eq_false (by show ¬ (x.vol > y.vol); omega)) ?_
                  refine r_cmp (hd 18 _ rfl rfl rfl) (hd 23 _ rfl rfl rfl) rfl rfl ?_
                  exact awl_nil ⟨rfl, post_put⟩⟩⟩
              , ⟨_, rfl, fun sl hd hr ho => by
                  refine g_run rfl (hd 12 _ rfl rfl rfl) (decide_eq_false (by show ¬ (x.vol > y.vol); omega)) ?_
                  refine r_move (hd 24 _ rfl rfl rfl) rfl ?_
                  exact awl_nil ⟨rfl, post_put⟩⟩⟩
              , ⟨_, rfl, fun sl hd hr ho => by
                  refine g_skip rfl (hd 25 _ rfl rfl rfl) hg108 rfl ?_
                  exact awl_nil ⟨rfl, post_put⟩⟩⟩
              , ⟨_, rfl, fun sl hd hr ho => by
                  refine g_skip rfl (hd 25 _ rfl rfl rfl) hg108 rfl ?_
                  exact awl_nil ⟨rfl, post_put⟩⟩⟩
              , ⟨_, rfl, fun sl hd hr ho => by
                  refine g_skip rfl (hd 25 _ rfl rfl rfl) hg108 rfl ?_
                  exact awl_nil ⟨rfl, post_put⟩⟩⟩
              , ⟨_, rfl, fun sl hd hr ho => by
                  refine g_skip rfl (hd 25 _ rfl rfl rfl) hg108 rfl ?_
                  exact awl_nil ⟨rfl, post_put⟩⟩⟩
              , ⟨_, rfl, fun sl hd hr ho => by
                  refine g_skip rfl (hd 25 _ rfl rfl rfl) hg108 rfl ?_
                  exact awl_nil ⟨rfl, post_put⟩⟩⟩
              , ⟨_, rfl, fun sl hd hr ho => by
                  refine g_skip rfl (hd 25 _ rfl rfl rfl) hg108 rfl ?_
                  exact awl_nil ⟨rfl, post_put⟩⟩⟩
              , ⟨_, rfl, fun sl hd hr ho => by
                  refine g_skip rfl (hd 25 _ rfl rfl rfl) hg108 rfl ?_
                  exact awl_nil ⟨rfl, post_put⟩⟩⟩
              , ⟨_, rfl, fun sl hd hr ho => by
                  refine g_skip rfl (hd 25 _ rfl rfl rfl) hg108 rfl ?_
                  exact awl_nil ⟨rfl, post_put⟩⟩⟩
              , ⟨_, rfl, fun sl hd hr ho => by
                  refine g_skip rfl (hd 25 _ rfl rfl rfl) hg108 rfl ?_
                  exact awl_nil ⟨rfl, post_put⟩⟩⟩
              , ⟨_, rfl, fun sl hd hr ho => by
                  refine g_skip rfl (hd 25 _ rfl rfl rfl) hg108 rfl ?_
                  exact awl_nil ⟨rfl, post_put⟩⟩⟩
              , ⟨_, rfl, fun sl hd hr ho => by
                  refine g_skip rfl (hd 25 _ rfl rfl rfl) hg108 rfl ?_
                  exact awl_nil ⟨rfl, post_put⟩⟩⟩
              (by rfl) ?_
            refine g_skip rfl rfl hg108 rfl ?_
            refine g_run rfl rfl (decide_eq_false (by show ¬ (x.vol > y.vol); omega)) ?_
            refine r_pickF rfl hg108 rfl rfl ?_
            refine r_pickF rfl (decide_eq_false (by show ¬ (x.vol > y.vol); omega)) rfl rfl ?_
            refine awl_nil ?_
            refine x_then ?_
            refine awp_condF rfl ?_
            refine awp_skip ?_
            refine x_block ?_
            refine x_then ?_
            refine awp_region ?_
            refine r_move rfl rfl ?_
            refine r_ari _ rfl rfl rfl (wrap_id (by first | omega | (simp; omega))) rfl ?_
            refine r_assign rfl rfl ?_
            refine awl_nil ?_
            refine x_then ?_
            refine ⟨cs.length - (k + 1), ⟨161, [(0, .a (entsA base)), (1, .a (entsA ours)), (2, .a (entsA theirs)), (9, .a (entsA ts)), (10, .a (clasA cs)), (12, .a (.v (.int .i64 (((k + 1) : Int) + 1))))], []⟩, ⟨rfl, (Slots.cons rfl (by first | exact .refl _ | exact .nilOwn _ _ | exact .nilSl _ | exact .ownSl _ _ _  | exact SV.le.ownEq (by simp) | exact SV.le.of_eq (by simp)) (Slots.cons rfl (by first | exact .refl _ | exact .nilOwn _ _ | exact .nilSl _ | exact .ownSl _ _ _  | exact SV.le.ownEq (by simp) | exact SV.le.of_eq (by simp)) (Slots.cons rfl (by first | exact .refl _ | exact .nilOwn _ _ | exact .nilSl _ | exact .ownSl _ _ _  | exact SV.le.ownEq (by simp) | exact SV.le.of_eq (by simp)) (Slots.cons rfl (by first | exact .refl _ | exact .nilOwn _ _ | exact .nilSl _ | exact .ownSl _ _ _  | exact SV.le.ownEq (by simp) | exact SV.le.of_eq (by simp)) (Slots.cons rfl (by first | exact .refl _ | exact .nilOwn _ _ | exact .nilSl _ | exact .ownSl _ _ _  | exact SV.le.ownEq (by simp) | exact SV.le.of_eq (by simp)) (Slots.cons rfl (by first | exact .refl _ | exact .nilOwn _ _ | exact .nilSl _ | exact .ownSl _ _ _  | exact SV.le.ownEq (by simp) | exact SV.le.of_eq (by simp)) Slots.nil)))))), (by first | exact List.Sublist.refl _ | exact .cons_cons _ (.cons _ (.refl _)) | exact List.nil_sublist _ | exact .cons _ (.refl _) | exact .cons _ (.cons _ (.refl _)) | exact .cons _ (.cons _ (.cons _ (.refl _))) | exact .cons _ (.cons _ (.cons _ (.cons _ (.refl _)))) | exact .cons_cons _ (List.nil_sublist _))⟩, (by omega), ⟨k + 1, rfl, rfl, (by omega)⟩⟩
        ·
          refine awp_exit ?_
          refine x_thenE ?_
          refine x_thenE ?_
          refine x_blockE ?_
          refine x_then ?_
          refine awp_seq ?_
          refine awp_seq ?_
          refine awp_region ?_
          refine r_assign rfl rfl ?_
          refine awl_nil ?_
          refine x_then ?_
          refine awp_block ?_
          refine awp_loop (fun nn0 S => ∃ k : Nat, S = ⟨161, [(0, .a (entsA base)), (1, .a (entsA ours)), (2, .a (entsA theirs)), (9, .a (entsA ts)), (10, .a (clasA cs)), (13, .a (.v (.int .i64 ((k : Int)))))], []⟩ ∧ nn0 = ts.length - k ∧ (k ≤ ts.length)) (ts.length - (0)) ⟨161, [(0, .a (entsA base)), (1, .a (entsA ours)), (2, .a (entsA theirs)), (9, .a (entsA ts)), (10, .a (clasA cs)), (13, .a (.v (.int .i64 (((0) : Int)))))], []⟩ ⟨rfl, (Slots.cons rfl (by first | exact .refl _ | exact .nilOwn _ _ | exact .nilSl _ | exact .ownSl _ _ _  | exact SV.le.of_eq (by simp)) (Slots.cons rfl (by first | exact .refl _ | exact .nilOwn _ _ | exact .nilSl _ | exact .ownSl _ _ _  | exact SV.le.of_eq (by simp)) (Slots.cons rfl (by first | exact .refl _ | exact .nilOwn _ _ | exact .nilSl _ | exact .ownSl _ _ _  | exact SV.le.of_eq (by simp)) (Slots.cons rfl (by first | exact .refl _ | exact .nilOwn _ _ | exact .nilSl _ | exact .ownSl _ _ _  | exact SV.le.of_eq (by simp)) (Slots.cons rfl (by first | exact .refl _ | exact .nilOwn _ _ | exact .nilSl _ | exact .ownSl _ _ _  | exact SV.le.of_eq (by simp)) (Slots.cons rfl (by first | exact .refl _ | exact .nilOwn _ _ | exact .nilSl _ | exact .ownSl _ _ _  | exact SV.le.of_eq (by simp)) Slots.nil)))))), (by first | exact List.Sublist.refl _ | exact .cons_cons _ (.cons _ (.refl _)) | exact List.nil_sublist _ | exact .cons _ (.refl _) | exact .cons _ (.cons _ (.refl _)) | exact .cons _ (.cons _ (.cons _ (.refl _))) | exact .cons _ (.cons _ (.cons _ (.cons _ (.refl _)))) | exact .cons_cons _ (List.nil_sublist _))⟩ ⟨0, rfl, rfl, Nat.zero_le _⟩ ?_
          rintro nn0 _ ⟨k, rfl, rfl, hk⟩
          refine awp_seq ?_
          refine awp_seq ?_
          refine awp_region ?_
          refine r_move rfl rfl ?_
          refine r_move rfl rfl ?_
          first | (refine r_lenS rfl rfl T.sl22 rfl ?_) | (refine r_lenNil rfl T.sl22 rfl ?_)
          refine r_cmp rfl rfl rfl rfl ?_
          refine awl_nil ?_
          refine x_then ?_
          refine awp_cond rfl (fun hc6 => ?_) (fun hc6 => ?_)
          ·
            have hltx : k < ts.length := by have := of_decide_eq_true hc6; simpa using this
            obtain ⟨x, hx⟩ := get_lt hltx
            refine awp_skip ?_
            refine x_then ?_
            refine awp_seq ?_
            refine awp_block ?_
            refine awp_seq ?_
            refine awp_drawS [129, 130, 131, 132, 133, 134, 135, 136, 137, 138, 139, 140, 141, 142, 143, 144, 145] [_, _, _, _, _, _, _, _, _, _, _, _, _, _, _, _, _] [] [] T.mixed rfl rfl rfl ⟨⟨⟨⟨⟨⟨⟨⟨⟨⟨⟨⟨⟨⟨⟨⟨⟨trivial
              , ⟨_, rfl, fun sl hd hr ho => by
                  refine r_move (hr 2 _ rfl rfl rfl) rfl ?_
                  exact awl_nil ⟨rfl, post_put⟩⟩⟩
              , ⟨_, rfl, fun sl hd hr ho => by
                  refine r_move (hr 9 _ rfl rfl rfl) rfl ?_
                  exact awl_nil ⟨rfl, post_put⟩⟩⟩
              , ⟨_, rfl, fun sl hd hr ho => by
                  refine r_move (hr 13 _ rfl rfl rfl) rfl ?_
                  exact awl_nil ⟨rfl, post_put⟩⟩⟩
              , ⟨_, rfl, fun sl hd hr ho => by
                  refine r_index (hd 1 _ rfl rfl rfl) rfl (hd 2 _ rfl rfl rfl) T.sl22 T.sz35 (by omega) (get_map hx) rfl ?_
                  exact awl_nil ⟨rfl, post_put⟩⟩⟩
              , ⟨_, rfl, fun sl hd hr ho => by
                  first | (refine r_fieldcp (hd 3 _ rfl rfl rfl) T.f35_0 T.sz3 rfl ?_) | (refine r_fieldb (hd 3 _ rfl rfl rfl) T.f35_0 T.sz3 rfl ?_)
                  exact awl_nil ⟨rfl, post_put⟩⟩⟩
              , ⟨_, rfl, fun sl hd hr ho => by
                  refine r_load1 (hd 4 _ rfl rfl rfl) T.agg3 rfl ?_
                  exact awl_nil ⟨rfl, post_put⟩⟩⟩
              , ⟨_, rfl, fun sl hd hr ho => by
                  refine r_move (hr 9 _ rfl rfl rfl) rfl ?_
                  exact awl_nil ⟨rfl, post_put⟩⟩⟩
              , ⟨_, rfl, fun sl hd hr ho => by
                  refine r_move (hr 13 _ rfl rfl rfl) rfl ?_
                  exact awl_nil ⟨rfl, post_put⟩⟩⟩
              , ⟨_, rfl, fun sl hd hr ho => by
                  refine r_index (hd 6 _ rfl rfl rfl) rfl (hd 7 _ rfl rfl rfl) T.sl22 T.sz35 (by omega) (get_map hx) rfl ?_
                  exact awl_nil ⟨rfl, post_put⟩⟩⟩
              , ⟨_, rfl, fun sl hd hr ho => by
                  first | (refine r_fieldcp (hd 8 _ rfl rfl rfl) T.f35_1 T.sz3 rfl ?_) | (refine r_fieldb (hd 8 _ rfl rfl rfl) T.f35_1 T.sz3 rfl ?_)
                  exact awl_nil ⟨rfl, post_put⟩⟩⟩
              , ⟨_, rfl, fun sl hd hr ho => by
                  refine r_load1 (hd 9 _ rfl rfl rfl) T.agg3 rfl ?_
                  exact awl_nil ⟨rfl, post_put⟩⟩⟩
              , ⟨_, rfl, fun sl hd hr ho => by
                  refine r_call0 hq rfl rfl (.cons (.ev (hd 0 _ rfl rfl rfl) rfl) (.cons (.ev (hd 5 _ rfl rfl rfl) rfl) (.cons (.ev (hd 10 _ rfl rfl rfl) rfl) .nil))) (shows_ok theirs x.vol x.blk (by omega)) rfl T.en20 rfl (fun r hr => ?_)
                  obtain rfl := hr
                  exact awl_nil ⟨rfl, post_put⟩⟩⟩
              , ⟨_, rfl, fun sl hd hr ho => by
                  refine r_move (hr 9 _ rfl rfl rfl) rfl ?_
                  exact awl_nil ⟨rfl, post_put⟩⟩⟩
              , ⟨_, rfl, fun sl hd hr ho => by
                  refine r_move (hr 13 _ rfl rfl rfl) rfl ?_
                  exact awl_nil ⟨rfl, post_put⟩⟩⟩
              , ⟨_, rfl, fun sl hd hr ho => by
                  refine r_index (hd 12 _ rfl rfl rfl) rfl (hd 13 _ rfl rfl rfl) T.sl22 T.sz35 (by omega) (get_map hx) rfl ?_
                  exact awl_nil ⟨rfl, post_put⟩⟩⟩
              , ⟨_, rfl, fun sl hd hr ho => by
                  first | (refine r_fieldcp (hd 14 _ rfl rfl rfl) T.f35_2 T.sz23 rfl ?_) | (refine r_fieldb (hd 14 _ rfl rfl rfl) T.f35_2 T.sz23 rfl ?_)
                  exact awl_nil ⟨rfl, post_put⟩⟩⟩
              , ⟨_, rfl, fun sl hd hr ho => by
                  refine r_load1 (hd 15 _ rfl rfl rfl) T.agg23 rfl ?_
                  exact awl_nil ⟨rfl, post_put⟩⟩⟩
              (by rfl) ?_
            refine r_cmp rfl rfl rfl rfl ?_
            refine awl_nil ?_
            refine x_then ?_
            refine awp_cond rfl (fun hc7 => ?_) (fun hc7 => ?_)
            ·
              exfalso; have h1 : ¬ shows theirs (x.vol, x.blk) = x.num := by simpa using hc7
              exact h1 (hnum x (List.mem_of_getElem? hx)).symm
            ·
              refine awp_skip ?_
              refine x_block ?_
              refine x_then ?_
              refine awp_region ?_
              refine r_move rfl rfl ?_
              refine r_ari _ rfl rfl rfl (wrap_id (by first | omega | (simp; omega))) rfl ?_
              refine r_assign rfl rfl ?_
              refine awl_nil ?_
              refine x_then ?_
              refine ⟨ts.length - (k + 1), ⟨161, [(0, .a (entsA base)), (1, .a (entsA ours)), (2, .a (entsA theirs)), (9, .a (entsA ts)), (10, .a (clasA cs)), (13, .a (.v (.int .i64 (((k + 1) : Int)))))], []⟩, ⟨rfl, (Slots.cons rfl (by first | exact .refl _ | exact .nilOwn _ _ | exact .nilSl _ | exact .ownSl _ _ _  | exact SV.le.of_eq (by simp)) (Slots.cons rfl (by first | exact .refl _ | exact .nilOwn _ _ | exact .nilSl _ | exact .ownSl _ _ _  | exact SV.le.of_eq (by simp)) (Slots.cons rfl (by first | exact .refl _ | exact .nilOwn _ _ | exact .nilSl _ | exact .ownSl _ _ _  | exact SV.le.of_eq (by simp)) (Slots.cons rfl (by first | exact .refl _ | exact .nilOwn _ _ | exact .nilSl _ | exact .ownSl _ _ _  | exact SV.le.of_eq (by simp)) (Slots.cons rfl (by first | exact .refl _ | exact .nilOwn _ _ | exact .nilSl _ | exact .ownSl _ _ _  | exact SV.le.of_eq (by simp)) (Slots.cons rfl (by first | exact .refl _ | exact .nilOwn _ _ | exact .nilSl _ | exact .ownSl _ _ _  | exact SV.le.of_eq (by simp)) Slots.nil)))))), (by first | exact List.Sublist.refl _ | exact .cons_cons _ (.cons _ (.refl _)) | exact List.nil_sublist _ | exact .cons _ (.refl _) | exact .cons _ (.cons _ (.refl _)) | exact .cons _ (.cons _ (.cons _ (.refl _))) | exact .cons _ (.cons _ (.cons _ (.cons _ (.refl _)))) | exact .cons_cons _ (List.nil_sublist _))⟩, (by omega), ⟨k + 1, rfl, rfl, (by have := (List.getElem?_eq_some_iff.1 hx).1; omega)⟩⟩
          ·
            refine awp_exit ?_
            refine x_thenE ?_
            refine x_thenE ?_
            refine x_blockE ?_
            refine x_then ?_
            refine awp_seq ?_
            refine awp_region ?_
            refine r_move rfl rfl ?_
            first | (refine r_lenS rfl rfl T.sl22 rfl ?_) | (refine r_lenNil rfl T.sl22 rfl ?_)
            refine r_move rfl rfl ?_
            first | (refine r_lenS rfl rfl T.sl26 rfl ?_) | (refine r_lenNil rfl T.sl26 rfl ?_)
            refine r_ari _ rfl rfl rfl (wrap_id (by first | omega | (simp; omega))) rfl ?_
            refine r_move rfl rfl ?_
            first | (refine r_lenS rfl rfl T.sl22 rfl ?_) | (refine r_lenNil rfl T.sl22 rfl ?_)
            refine r_move rfl rfl ?_
            first | (refine r_lenS rfl rfl T.sl22 rfl ?_) | (refine r_lenNil rfl T.sl22 rfl ?_)
            refine r_ari _ rfl rfl rfl (wrap_id (by first | omega | (simp; omega))) rfl ?_
            refine r_move rfl rfl ?_
            first | (refine r_lenS rfl rfl T.sl22 rfl ?_) | (refine r_lenNil rfl T.sl22 rfl ?_)
            refine r_ari _ rfl rfl rfl (wrap_id (by first | omega | (simp; omega))) rfl ?_
            refine r_cmp rfl rfl rfl rfl ?_
            refine r_assign rfl rfl ?_
            refine awl_nil ?_
            refine x_then ?_
            refine awp_ret ?_
            exact ⟨(.inl rfl), _, [], (.one (by first | exact .mk rfl rfl | exact .nil rfl)), ⟨rfl, by first | (simp only [bA, SV.av]; done) | (simp only [bA, SV.av]; exact congrArg (fun b => AV.v (.bool b)) (decide_eq_true (by simp only [List.length_map]; omega)))⟩, (List.nil_sublist _), (by simp)⟩

set_option maxHeartbeats 1000000 in
theorem more_law (base ours theirs : List Ent) (hgb : Good base) (hgo : Good ours) (hgt : Good theirs) : AC Try.prog 9 [entsA base, entsA ours, entsA theirs] [] (fun r n => n = [] ∧ r = bA true) := by
  refine ac_of_awp (rs := [6]) (nt := 91) Try.func9 rfl rfl rfl rfl (fun w0 C0 hq => ?_)
  refine awp_seq ?_
  refine awp_region ?_
  refine r_assign rfl rfl ?_
  refine awl_nil ?_
  refine x_then ?_
  refine awp_seq ?_
  refine awp_seq ?_
  refine awp_region ?_
  refine r_call0 hq rfl rfl .nil (awake_ok) rfl T.en11 rfl (fun r hr => ?_)
  obtain rfl := hr
  refine r_not rfl rfl ?_
  refine awl_nil ?_
  refine x_then ?_
  refine awp_cond rfl (fun hc0 => ?_) (fun hc0 => ?_)
  ·
    exfalso; exact absurd hc0 (by decide)
  ·
    refine awp_skip ?_
    refine x_then ?_
    refine awp_seq ?_
    refine awp_seq ?_
    refine awp_region ?_
    refine r_move rfl rfl ?_
    refine r_move rfl rfl ?_
    refine r_move rfl rfl ?_
    refine r_lit 20 (parts := [(0, .tmp 17), (1, .tmp 18), (2, .tmp 19)]) rfl T.sl44 T.sz22 T.zraw22 rfl rfl rfl rfl rfl rfl rfl ?_
    refine r_call0 hq rfl rfl (.cons (.ev rfl rfl) .nil) (great_ok [base, ours, theirs] (by simp)) rfl T.en12 rfl (fun r hr => ?_)
    rcases hr with rfl | ⟨rfl, hle⟩
    
    ·
      refine r_cmp rfl rfl rfl rfl ?_
      refine awl_nil ?_
      refine x_then ?_
      refine awp_condT rfl ?_
      refine awp_seq ?_
      refine awp_region ?_
      refine r_assign rfl rfl ?_
      refine awl_nil ?_
      refine x_then ?_
      refine awp_ret ?_
      refine x_thenR ?_
      exact ⟨(.inl rfl), _, [], (.one (by first | exact .mk rfl rfl | exact .nil rfl)), ⟨rfl, rfl⟩, (List.nil_sublist _), (by simp)⟩
    ·
      have hlbase : base.length ≤ 20 := hle base (by simp)
      have hlours : ours.length ≤ 20 := hle ours (by simp)
      have hltheirs : theirs.length ≤ 20 := hle theirs (by simp)
      refine r_cmp rfl rfl rfl rfl ?_
      refine awl_nil ?_
      refine x_then ?_
      refine awp_condF rfl ?_
      refine awp_skip ?_
      refine x_then ?_
      refine awp_seq ?_
      refine awp_region ?_
      refine r_assign rfl rfl ?_
      refine awl_nil ?_
      refine x_then ?_
      refine awp_seq ?_
      refine awp_region ?_
      refine r_move rfl rfl ?_
      refine r_move rfl rfl ?_
      refine r_move rfl rfl ?_
      refine r_move rfl rfl ?_
      refine r_call0 hq rfl rfl (.cons (.ev rfl rfl) (.cons (.ev rfl rfl) (.cons (.ev rfl rfl) (.cons (.ev rfl rfl) .nil)))) (three_ok told_all base ours theirs (by omega) (by omega) (by omega) hgb hgo hgt) rfl T.en13 rfl (fun r hr => ?_)
      obtain rfl := hr
      rw [all_clash]
      have htl := take_len (fun _ _ => true) base ours theirs
      have htl2 := take_clash_sum (fun _ _ => false) base ours theirs
      have hat : ∀ e ∈ takeF (fun _ _ => true) base ours theirs, ¬ (decide (shows base e.pl = 0) = decide (e.num = 0)) := fun e he => all_take he
      refine r_move rfl rfl ?_
      refine r_extract rfl rfl rfl ?_
      refine r_extract rfl rfl rfl ?_
      refine r_assign rfl rfl ?_
      refine r_assign rfl rfl ?_
      refine awl_nil ?_
      refine x_then ?_
      refine awp_seq ?_
      refine awp_seq ?_
      refine awp_region ?_
      refine r_assign rfl rfl ?_
      refine awl_nil ?_
      refine x_then ?_
      refine awp_block ?_
      refine awp_loop (fun nn0 S => ∃ k : Nat, S = ⟨91, [(0, .a (entsA base)), (1, .a (entsA ours)), (2, .a (entsA theirs)), (7, .a (.fn 21 [])), (8, .a (entsA (takeF (fun _ _ => true) base ours theirs))), (9, .a (clasA [])), (10, .a (.v (.int .i64 ((k : Int)))))], []⟩ ∧ nn0 = (takeF (fun _ _ => true) base ours theirs).length - k ∧ (k ≤ (takeF (fun _ _ => true) base ours theirs).length)) ((takeF (fun _ _ => true) base ours theirs).length - (0)) ⟨91, [(0, .a (entsA base)), (1, .a (entsA ours)), (2, .a (entsA theirs)), (7, .a (.fn 21 [])), (8, .a (entsA (takeF (fun _ _ => true) base ours theirs))), (9, .a (clasA [])), (10, .a (.v (.int .i64 (((0) : Int)))))], []⟩ ⟨rfl, (Slots.cons rfl (by first | exact .refl _ | exact .nilOwn _ _ | exact .nilSl _ | exact .ownSl _ _ _  | exact SV.le.of_eq (by simp)) (Slots.cons rfl (by first | exact .refl _ | exact .nilOwn _ _ | exact .nilSl _ | exact .ownSl _ _ _  | exact SV.le.of_eq (by simp)) (Slots.cons rfl (by first | exact .refl _ | exact .nilOwn _ _ | exact .nilSl _ | exact .ownSl _ _ _  | exact SV.le.of_eq (by simp)) (Slots.cons rfl (by first | exact .refl _ | exact .nilOwn _ _ | exact .nilSl _ | exact .ownSl _ _ _  | exact SV.le.of_eq (by simp)) (Slots.cons rfl (by first | exact .refl _ | exact .nilOwn _ _ | exact .nilSl _ | exact .ownSl _ _ _  | exact SV.le.of_eq (by simp)) (Slots.cons rfl (by first | exact .refl _ | exact .nilOwn _ _ | exact .nilSl _ | exact .ownSl _ _ _  | exact SV.le.of_eq (by simp)) (Slots.cons rfl (by first | exact .refl _ | exact .nilOwn _ _ | exact .nilSl _ | exact .ownSl _ _ _  | exact SV.le.of_eq (by simp)) Slots.nil))))))), (by first | exact List.Sublist.refl _ | exact .cons_cons _ (.cons _ (.refl _)) | exact List.nil_sublist _ | exact .cons _ (.refl _) | exact .cons _ (.cons _ (.refl _)) | exact .cons _ (.cons _ (.cons _ (.refl _))) | exact .cons _ (.cons _ (.cons _ (.cons _ (.refl _)))) | exact .cons_cons _ (List.nil_sublist _))⟩ ⟨0, rfl, rfl, Nat.zero_le _⟩ ?_
      rintro nn0 _ ⟨k, rfl, rfl, hk⟩
      refine awp_seq ?_
      refine awp_seq ?_
      refine awp_region ?_
      refine r_move rfl rfl ?_
      refine r_move rfl rfl ?_
      first | (refine r_lenS rfl rfl T.sl22 rfl ?_) | (refine r_lenNil rfl T.sl22 rfl ?_)
      refine r_cmp rfl rfl rfl rfl ?_
      refine awl_nil ?_
      refine x_then ?_
      refine awp_cond rfl (fun hc2 => ?_) (fun hc2 => ?_)
      ·
        have hltx : k < (takeF (fun _ _ => true) base ours theirs).length := by have := of_decide_eq_true hc2; simpa using this
        obtain ⟨x, hx⟩ := get_lt hltx
        refine awp_skip ?_
        refine x_then ?_
        refine awp_seq ?_
        refine awp_block ?_
        refine awp_seq ?_
        refine awp_drawS [37, 38, 39, 40, 41, 42, 43, 44, 45, 46, 47, 48, 49, 50, 51, 52, 53, 11] [_, _, _, _, _, _, _, _, _, _, _, _, _, _, _, _, _, _] [] [] T.mixed rfl rfl rfl ⟨⟨⟨⟨⟨⟨⟨⟨⟨⟨⟨⟨⟨⟨⟨⟨⟨⟨trivial
          , ⟨_, rfl, fun sl hd hr ho => by
              refine r_move (hr 0 _ rfl rfl rfl) rfl ?_
              exact awl_nil ⟨rfl, post_put⟩⟩⟩
          , ⟨_, rfl, fun sl hd hr ho => by
              refine r_move (hr 8 _ rfl rfl rfl) rfl ?_
              exact awl_nil ⟨rfl, post_put⟩⟩⟩
          , ⟨_, rfl, fun sl hd hr ho => by
              refine r_move (hr 10 _ rfl rfl rfl) rfl ?_
              exact awl_nil ⟨rfl, post_put⟩⟩⟩
          , ⟨_, rfl, fun sl hd hr ho => by
              refine r_index (hd 1 _ rfl rfl rfl) rfl (hd 2 _ rfl rfl rfl) T.sl22 T.sz35 (by omega) (get_map hx) rfl ?_
              exact awl_nil ⟨rfl, post_put⟩⟩⟩
          , ⟨_, rfl, fun sl hd hr ho => by
              first | (refine r_fieldcp (hd 3 _ rfl rfl rfl) T.f35_0 T.sz3 rfl ?_) | (refine r_fieldb (hd 3 _ rfl rfl rfl) T.f35_0 T.sz3 rfl ?_)
              exact awl_nil ⟨rfl, post_put⟩⟩⟩
          , ⟨_, rfl, fun sl hd hr ho => by
              refine r_load1 (hd 4 _ rfl rfl rfl) T.agg3 rfl ?_
              exact awl_nil ⟨rfl, post_put⟩⟩⟩
          , ⟨_, rfl, fun sl hd hr ho => by
              refine r_move (hr 8 _ rfl rfl rfl) rfl ?_
              exact awl_nil ⟨rfl, post_put⟩⟩⟩
          , ⟨_, rfl, fun sl hd hr ho => by
              refine r_move (hr 10 _ rfl rfl rfl) rfl ?_
              exact awl_nil ⟨rfl, post_put⟩⟩⟩
          , ⟨_, rfl, fun sl hd hr ho => by
              refine r_index (hd 6 _ rfl rfl rfl) rfl (hd 7 _ rfl rfl rfl) T.sl22 T.sz35 (by omega) (get_map hx) rfl ?_
              exact awl_nil ⟨rfl, post_put⟩⟩⟩
          , ⟨_, rfl, fun sl hd hr ho => by
              first | (refine r_fieldcp (hd 8 _ rfl rfl rfl) T.f35_1 T.sz3 rfl ?_) | (refine r_fieldb (hd 8 _ rfl rfl rfl) T.f35_1 T.sz3 rfl ?_)
              exact awl_nil ⟨rfl, post_put⟩⟩⟩
          , ⟨_, rfl, fun sl hd hr ho => by
              refine r_load1 (hd 9 _ rfl rfl rfl) T.agg3 rfl ?_
              exact awl_nil ⟨rfl, post_put⟩⟩⟩
          , ⟨_, rfl, fun sl hd hr ho => by
              refine r_call0 hq rfl rfl (.cons (.ev (hd 0 _ rfl rfl rfl) rfl) (.cons (.ev (hd 5 _ rfl rfl rfl) rfl) (.cons (.ev (hd 10 _ rfl rfl rfl) rfl) .nil))) (shows_ok base x.vol x.blk (by omega)) rfl T.en20 rfl (fun r hr => ?_)
              obtain rfl := hr
              exact awl_nil ⟨rfl, post_put⟩⟩⟩
          , ⟨_, rfl, fun sl hd hr ho => by
              refine r_move (hr 8 _ rfl rfl rfl) rfl ?_
              exact awl_nil ⟨rfl, post_put⟩⟩⟩
          , ⟨_, rfl, fun sl hd hr ho => by
              refine r_move (hr 10 _ rfl rfl rfl) rfl ?_
              exact awl_nil ⟨rfl, post_put⟩⟩⟩
          , ⟨_, rfl, fun sl hd hr ho => by
              refine r_index (hd 12 _ rfl rfl rfl) rfl (hd 13 _ rfl rfl rfl) T.sl22 T.sz35 (by omega) (get_map hx) rfl ?_
              exact awl_nil ⟨rfl, post_put⟩⟩⟩
          , ⟨_, rfl, fun sl hd hr ho => by
              first | (refine r_fieldcp (hd 14 _ rfl rfl rfl) T.f35_2 T.sz23 rfl ?_) | (refine r_fieldb (hd 14 _ rfl rfl rfl) T.f35_2 T.sz23 rfl ?_)
              exact awl_nil ⟨rfl, post_put⟩⟩⟩
          , ⟨_, rfl, fun sl hd hr ho => by
              refine r_load1 (hd 15 _ rfl rfl rfl) T.agg23 rfl ?_
              exact awl_nil ⟨rfl, post_put⟩⟩⟩
          , ⟨_, rfl, fun sl hd hr ho => by
              refine r_assign (hd 11 _ rfl rfl rfl) rfl ?_
              exact awl_nil ⟨rfl, post_put⟩⟩⟩
          (by rfl) ?_
        refine r_assign rfl rfl ?_
        refine awl_nil ?_
        refine x_then ?_
        refine awp_seq ?_
        refine awp_region ?_
        refine r_move rfl rfl ?_
        refine r_cmp rfl rfl rfl rfl ?_
        refine r_move rfl rfl ?_
        refine r_cmp rfl rfl rfl rfl ?_
        refine r_beq rfl rfl T.un4 rfl ?_
        refine awl_nil ?_
        refine x_then ?_
        refine awp_cond rfl (fun hc3 => ?_) (fun hc3 => ?_)
        ·
          exfalso; exact hat x (List.mem_of_getElem? hx) (eq_of_beq hc3)
        ·
          refine awp_skip ?_
          refine x_block ?_
          refine x_then ?_
          refine awp_region ?_
          refine r_move rfl rfl ?_
          refine r_ari _ rfl rfl rfl (wrap_id (by first | omega | (simp; omega))) rfl ?_
          refine r_assign rfl rfl ?_
          refine awl_nil ?_
          refine x_then ?_
          refine ⟨(takeF (fun _ _ => true) base ours theirs).length - (k + 1), ⟨91, [(0, .a (entsA base)), (1, .a (entsA ours)), (2, .a (entsA theirs)), (7, .a (.fn 21 [])), (8, .a (entsA (takeF (fun _ _ => true) base ours theirs))), (9, .a (clasA [])), (10, .a (.v (.int .i64 (((k + 1) : Int)))))], []⟩, ⟨rfl, (Slots.cons rfl (by first | exact .refl _ | exact .nilOwn _ _ | exact .nilSl _ | exact .ownSl _ _ _  | exact SV.le.of_eq (by simp)) (Slots.cons rfl (by first | exact .refl _ | exact .nilOwn _ _ | exact .nilSl _ | exact .ownSl _ _ _  | exact SV.le.of_eq (by simp)) (Slots.cons rfl (by first | exact .refl _ | exact .nilOwn _ _ | exact .nilSl _ | exact .ownSl _ _ _  | exact SV.le.of_eq (by simp)) (Slots.cons rfl (by first | exact .refl _ | exact .nilOwn _ _ | exact .nilSl _ | exact .ownSl _ _ _  | exact SV.le.of_eq (by simp)) (Slots.cons rfl (by first | exact .refl _ | exact .nilOwn _ _ | exact .nilSl _ | exact .ownSl _ _ _  | exact SV.le.of_eq (by simp)) (Slots.cons rfl (by first | exact .refl _ | exact .nilOwn _ _ | exact .nilSl _ | exact .ownSl _ _ _  | exact SV.le.of_eq (by simp)) (Slots.cons rfl (by first | exact .refl _ | exact .nilOwn _ _ | exact .nilSl _ | exact .ownSl _ _ _  | exact SV.le.of_eq (by simp)) Slots.nil))))))), (by first | exact List.Sublist.refl _ | exact .cons_cons _ (.cons _ (.refl _)) | exact List.nil_sublist _ | exact .cons _ (.refl _) | exact .cons _ (.cons _ (.refl _)) | exact .cons _ (.cons _ (.cons _ (.refl _))) | exact .cons _ (.cons _ (.cons _ (.cons _ (.refl _)))) | exact .cons_cons _ (List.nil_sublist _))⟩, (by omega), ⟨k + 1, rfl, rfl, (by have := (List.getElem?_eq_some_iff.1 hx).1; omega)⟩⟩
      ·
        refine awp_exit ?_
        refine x_thenE ?_
        refine x_thenE ?_
        refine x_blockE ?_
        refine x_then ?_
        refine awp_seq ?_
        refine awp_region ?_
        refine r_move rfl rfl ?_
        refine r_move rfl rfl ?_
        refine r_move rfl rfl ?_
        refine r_call0 hq rfl rfl (.cons (.ev rfl rfl) (.cons (.ev rfl rfl) (.cons (.ev rfl rfl) (.cons (.ev rfl rfl) .nil)))) (three_ok .nil base ours theirs (by omega) (by omega) (by omega) hgb hgo hgt) rfl T.en13 rfl (fun r hr => ?_)
        obtain rfl := hr
        refine r_move rfl rfl ?_
        refine r_extract rfl rfl rfl ?_
        refine r_extract rfl rfl rfl ?_
        refine r_assign rfl rfl ?_
        refine r_assign rfl rfl ?_
        refine awl_nil ?_
        refine x_then ?_
        refine awp_seq ?_
        refine awp_region ?_
        refine r_move rfl rfl ?_
        first | (refine r_lenS rfl rfl T.sl26 rfl ?_) | (refine r_lenNil rfl T.sl26 rfl ?_)
        refine r_cmp rfl rfl rfl rfl ?_
        refine r_move rfl rfl ?_
        refine g_run rfl rfl rfl ?_
        refine r_move rfl rfl ?_
        refine g_run rfl rfl rfl ?_
        first | (refine r_lenS rfl rfl T.sl22 rfl ?_) | (refine r_lenNil rfl T.sl22 rfl ?_)
        refine g_run rfl rfl rfl ?_
        refine r_move rfl rfl ?_
        refine g_run rfl rfl rfl ?_
        first | (refine r_lenS rfl rfl T.sl22 rfl ?_) | (refine r_lenNil rfl T.sl22 rfl ?_)
        refine g_run rfl rfl rfl ?_
        refine r_move rfl rfl ?_
        refine g_run rfl rfl rfl ?_
        first | (refine r_lenS rfl rfl T.sl26 rfl ?_) | (refine r_lenNil rfl T.sl26 rfl ?_)
        refine g_run rfl rfl rfl ?_
        refine r_ari _ rfl rfl rfl (wrap_id (by first | omega | (simp; omega))) rfl ?_
        refine g_run rfl rfl rfl ?_
        refine r_cmp rfl rfl rfl rfl ?_
        refine r_pickT rfl rfl rfl rfl ?_
        refine r_move rfl rfl ?_
        refine g_run rfl rfl (by have := all_less base ours theirs; simp; omega) ?_
        refine r_move rfl rfl ?_
        refine g_run rfl rfl (by have := all_less base ours theirs; simp; omega) ?_
        refine r_move rfl rfl ?_
        refine g_run rfl rfl (by have := all_less base ours theirs; simp; omega) ?_
        refine r_call0 hq rfl rfl (.cons (.ev rfl rfl) (.cons (.ev rfl rfl) (.cons (.ev rfl rfl) .nil))) (same_ok .nil rfl rfl ours theirs (by omega) (by omega) hgo hgt) rfl T.en16 rfl (fun r hr => ?_)
        obtain rfl := hr
        refine g_run rfl rfl (by have := all_less base ours theirs; simp; omega) ?_
        refine r_not rfl rfl ?_
        refine g_run rfl rfl (by have := all_less base ours theirs; simp; omega) ?_
        refine r_move rfl rfl ?_
        refine g_cases (t' := 84) rfl (fun hg84 => ?_) (fun hg84 => ?_)
        ·
          refine g_skip rfl rfl hg84 rfl ?_
          refine g_skip rfl rfl hg84 rfl ?_
          refine g_skip rfl rfl hg84 rfl ?_
          refine g_skip rfl rfl hg84 rfl ?_
          refine g_run rfl rfl (by have := all_less base ours theirs; simp; omega) ?_
          refine r_pickT rfl hg84 rfl rfl ?_
          refine r_pickT rfl (by have := all_less base ours theirs; simp; omega) rfl rfl ?_
          refine r_assign rfl rfl ?_
          refine awl_nil ?_
          refine x_then ?_
          refine awp_ret ?_
          exact ⟨(.inl rfl), _, [], (.one (by first | exact .mk rfl rfl | exact .nil rfl)), ⟨rfl, rfl⟩, (List.nil_sublist _), (by simp)⟩
        ·
          refine g_run rfl rfl hg84 ?_
          refine r_move rfl rfl ?_
          refine g_run rfl rfl hg84 ?_
          refine r_move rfl rfl ?_
          refine g_run rfl rfl hg84 ?_
          refine r_move rfl rfl ?_
          refine g_run rfl rfl hg84 ?_
          refine r_call0 hq rfl rfl (.cons (.ev rfl rfl) (.cons (.ev rfl rfl) (.cons (.ev rfl rfl) .nil))) (same_ok told_all rfl rfl ours theirs (by omega) (by omega) hgo hgt) rfl T.en16 rfl (fun r hr => ?_)
          obtain rfl := hr
          rw [all_same (by simpa using hg84)]
          refine g_run rfl rfl (by have := all_less base ours theirs; simp; omega) ?_
          refine r_pickF rfl hg84 rfl rfl ?_
          refine r_pickT rfl (by have := all_less base ours theirs; simp; omega) rfl rfl ?_
          refine r_assign rfl rfl ?_
          refine awl_nil ?_
          refine x_then ?_
          refine awp_ret ?_
          exact ⟨(.inl rfl), _, [], (.one (by first | exact .mk rfl rfl | exact .nil rfl)), ⟨rfl, rfl⟩, (List.nil_sublist _), (by simp)⟩

end Go.Proofs.Ytcgjgnkpebpimaa.A

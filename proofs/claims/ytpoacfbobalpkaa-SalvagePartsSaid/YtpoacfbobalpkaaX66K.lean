/- Layer 66: SalvageParts, walked. -/
import Derived.Test.YtpoacfbobalpkaaProg
import Derived.KernelRfl
import Derived.Test.YtpoacfbobalpkaaX66J
import Derived.Test.YtpoacfbobalpkaaX66Q
namespace Go.Proofs.Ytpoacfbobalpkaa.A
open Go Go.RowKit
set_option linter.unusedVariables false
set_option linter.unusedSimpArgs false
set_option maxRecDepth 100000

theorem parts_law (l : List Moment) (nums : List Int) (not : Int) : AC Try.prog 5 [momentsA l, numsA nums, u8A not] [] (fun r n => n = [] ∧ r = boolA true) := by
  refine ac_of_awp (rs := [6]) (nt := 101) Try.func5 rfl rfl rfl rfl (fun w0 C0 => ?_)
  refine awp_seq ?_
  refine awp_region ?_
  refine r_assign rfl rfl ?_
  refine awl_nil ?_
  refine x_then ?_
  refine awp_seq ?_
  refine awp_seq ?_
  refine awp_region ?_
  refine r_call0 rfl rfl .nil (awake_ok) rfl T.en9 rfl (fun r hr => ?_)
  obtain rfl := hr
  refine r_not rfl rfl ?_
  refine awl_nil ?_
  refine x_then ?_
  refine awp_cond rfl (fun hc0 => ?_) (fun hc0 => ?_)
  ·
    exfalso; exact absurd hc0 (by decide)
  ·
    refine awp_skip ?_
    refine x_then ?_
    refine awp_seq ?_
    refine awp_seq ?_
    refine awp_region ?_
    refine r_move rfl rfl ?_
    refine r_move rfl rfl ?_
    refine r_call0 rfl rfl (.cons (.ev rfl rfl) (.cons (.ev rfl rfl) .nil)) (small_ok l nums) rfl T.en10 rfl (fun r hr => ?_)
    rcases hr with rfl | ⟨rfl, h⟩
    
    ·
      refine r_cmp rfl rfl rfl rfl ?_
      refine awl_nil ?_
      refine x_then ?_
      refine awp_condT rfl ?_
      refine awp_seq ?_
      refine awp_region ?_
      refine r_assign rfl rfl ?_
      refine awl_nil ?_
      refine x_then ?_
      refine awp_ret ?_
      refine x_thenR ?_
      exact ⟨(.inl rfl), _, [], (.one (by first | exact .mk rfl rfl | exact .nil rfl)), ⟨rfl, rfl⟩, (List.nil_sublist _), (by simp)⟩
    ·
      have hn10 := h.nums
      refine r_cmp rfl rfl rfl rfl ?_
      refine awl_nil ?_
      refine x_then ?_
      refine awp_condF rfl ?_
      refine awp_skip ?_
      refine x_then ?_
      refine awp_seq ?_
      refine awp_region ?_
      refine r_move rfl rfl ?_
      refine r_move rfl rfl ?_
      refine r_call0 rfl rfl (.cons (.ev rfl rfl) .nil) (atf_ok l) rfl T.en12 rfl (fun r hr => ?_)
      obtain rfl := hr
      refine r_move rfl rfl ?_
      refine r_call0 rfl rfl (.cons (.ev rfl rfl) .nil) (wholef_ok not) rfl T.en15 rfl (fun r hr => ?_)
      obtain rfl := hr
      refine r_call0 rfl rfl (.cons (.ev rfl rfl) (.cons (.ev rfl rfl) (.cons (.ev rfl rfl) .nil))) (plan_whole not rfl h.sane h.look (by omega)) rfl T.en11 rfl (fun r hr => ?_)
      obtain rfl := hr
      have hp : PlanOk not (rplanOf (lookM l) not nums) := plan_facts h.look not (by omega)
      generalize rplanOf (lookM l) not nums = cs at hp ⊢
      have hcl := hp.len
      refine r_assign rfl rfl ?_
      refine awl_nil ?_
      refine x_then ?_
      refine awp_seq ?_
      refine awp_region ?_
      refine r_move rfl rfl ?_
      refine r_call0 rfl rfl (.cons (.ev rfl rfl) .nil) (sfiles_ok cs (by omega) hp.size) rfl T.en16 rfl (fun r hr => ?_)
      obtain rfl := hr
      rw [files_eq]
      refine r_move rfl rfl ?_
      refine r_call0 rfl rfl (.cons (.ev rfl rfl) .nil) (slost_ok cs (by omega) hp.size) rfl T.en19 rfl (fun r hr => ?_)
      obtain rfl := hr
      rw [lost_eq]
      have hfl := hp.flen
      have hll := hp.llen
      have hfw := fun f (hf : f ∈ rfilesOf cs) => hp.file hf
      have hfa := fun f (hf : f ∈ rfilesOf cs) => hp.apart hf
      generalize rfilesOf cs = fs at hfl hfw hfa ⊢
      generalize rlostOf cs = ln at hll hfa ⊢
      refine r_assign rfl rfl ?_
      refine r_assign rfl rfl ?_
      refine awl_nil ?_
      refine x_then ?_
      refine awp_seq ?_
      refine awp_region ?_
      refine r_assign rfl rfl ?_
      refine awl_nil ?_
      refine x_then ?_
      refine awp_seq ?_
      refine awp_seq ?_
      refine awp_region ?_
      refine r_move rfl rfl ?_
      first | (refine r_lenS rfl rfl T.sl26 rfl ?_) | (refine r_lenNil rfl T.sl26 rfl ?_)
      refine r_move rfl rfl ?_
      refine awl_nil ?_
      refine x_then ?_
      refine awp_block ?_
      refine awp_loop (fun n S => ∃ k : Nat, S = ⟨101, [(2, .a (u8A not)), (7, .a (choicesA cs)), (8, .a (files fs)), (9, .a (strsA ln)), (10, .a (.v (.int .i64 ((((cs.take k).countP (·.whole)) : Nat))))), (34, .a (choicesA cs)), (35, .a (.v (.int .i64 ((cs.map Choice.cs).length)))), (36, .a (.v (.int .i64 ((k : Int)))))], []⟩ ∧ n = cs.length - k ∧ (k ≤ cs.length)) (cs.length - (0)) ⟨101, [(2, .a (u8A not)), (7, .a (choicesA cs)), (8, .a (files fs)), (9, .a (strsA ln)), (10, .a (.v (.int .i64 ((((cs.take (0)).countP (·.whole)) : Nat))))), (34, .a (choicesA cs)), (35, .a (.v (.int .i64 ((cs.map Choice.cs).length)))), (36, .a (.v (.int .i64 (((0) : Int)))))], []⟩ ⟨rfl, (Slots.cons rfl (by first | exact .refl _ | exact .nilOwn _ _ | exact .nilSl _ | exact .ownSl _ _ _ | exact SV.le.of_eq (by simp)) (Slots.cons rfl (by first | exact .refl _ | exact .nilOwn _ _ | exact .nilSl _ | exact .ownSl _ _ _ | exact SV.le.of_eq (by simp)) (Slots.cons rfl (by first | exact .refl _ | exact .nilOwn _ _ | exact .nilSl _ | exact .ownSl _ _ _ | exact SV.le.of_eq (by simp)) (Slots.cons rfl (by first | exact .refl _ | exact .nilOwn _ _ | exact .nilSl _ | exact .ownSl _ _ _ | exact SV.le.of_eq (by simp)) (Slots.cons rfl (by first | exact .refl _ | exact .nilOwn _ _ | exact .nilSl _ | exact .ownSl _ _ _ | exact SV.le.of_eq (by simp)) (Slots.cons rfl (by first | exact .refl _ | exact .nilOwn _ _ | exact .nilSl _ | exact .ownSl _ _ _ | exact SV.le.of_eq (by simp)) (Slots.cons rfl (by first | exact .refl _ | exact .nilOwn _ _ | exact .nilSl _ | exact .ownSl _ _ _ | exact SV.le.of_eq (by simp)) (Slots.cons rfl (by first | exact .refl _ | exact .nilOwn _ _ | exact .nilSl _ | exact .ownSl _ _ _ | exact SV.le.of_eq (by simp)) Slots.nil)))))))), (by first | exact List.Sublist.refl _ | exact List.nil_sublist _ | exact .cons _ (.refl _) | exact .cons _ (.cons _ (.refl _)) | exact .cons _ (.cons _ (.cons _ (.refl _))) | exact .cons _ (.cons _ (.cons _ (.cons _ (.refl _)))) | exact .cons_cons _ (List.nil_sublist _))⟩ ⟨0, rfl, rfl, Nat.zero_le _⟩ ?_
      rintro n _ ⟨k, rfl, rfl, hk⟩
      refine awp_seq ?_
      refine awp_region ?_
      refine r_cmp rfl rfl rfl rfl ?_
      refine awl_nil ?_
      refine x_then ?_
      refine awp_seq ?_
      refine awp_cond rfl (fun hc2 => ?_) (fun hc2 => ?_)
      ·
        have hlt : k < cs.length := by have := of_decide_eq_true hc2; simpa using this
        obtain ⟨x, hx⟩ := get_lt hlt
        have hcnt : ((cs.take k).countP (·.whole)) ≤ (cs.take k).length := List.countP_le_length
        rw [List.length_take] at hcnt
        have e : ((cs.take (k + 1)).countP (·.whole)) = ((cs.take k).countP (·.whole)) + cond x.whole 1 0 := by rw [takeS hx, List.countP_append]; simp [List.countP_cons] <;> cases x.whole <;> rfl
        refine awp_skip ?_
        refine x_then ?_
        refine awp_seq ?_
        refine awp_block ?_
        refine awp_seq ?_
        refine awp_region ?_
        refine r_move rfl rfl ?_
        refine r_index rfl rfl rfl T.sl26 T.sz33 (by omega) (get_map hx) rfl ?_
        refine r_loadA rfl T.agg33 T.sz33 rfl rfl ?_
        refine r_alloc T.zero33 rfl (fun b12 => ?_)
        refine r_assign rfl rfl ?_
        refine r_store 0 rfl rfl rfl T.sz33 rfl rfl rfl ?_
        refine awl_nil ?_
        refine x_then ?_
        refine awp_seq ?_
        refine awp_seq ?_
        rcases Bool.eq_false_or_eq_true (decide (0 < (k : Int))) with hg43 | hg43
        ·
          have hk0 := of_decide_eq_true hg43
          obtain ⟨y, hy⟩ : ∃ y, cs[k - 1]? = some y := get_lt (by omega)
          have hlt2 : ltS y.name x.name = true := by
            have hs := List.pairwise_map.1 hp.sorted
            rw [List.pairwise_iff_getElem] at hs
            obtain ⟨h1, h2⟩ := List.getElem?_eq_some_iff.1 hy
            obtain ⟨h3, h4⟩ := List.getElem?_eq_some_iff.1 hx
            have := hs (k - 1) k h1 h3 (by omega)
            rw [h2, h4] at this; exact this
          refine awp_drawS [41, 42, 43, 44, 45, 46, 47, 48, 49, 50, 51] [_, _, _, _, _, _, _, _, _, _, _] [] [] T.mixed rfl rfl rfl ⟨⟨⟨⟨⟨⟨⟨⟨⟨⟨⟨trivial
            , ⟨_, rfl, fun sl hd hr ho => by
                refine r_move (hr 11 _ rfl rfl rfl) rfl ?_
                exact awl_nil ⟨rfl, post_put⟩⟩⟩
            , ⟨_, rfl, fun sl hd hr ho => by
                refine r_cmp (hd 0 _ rfl rfl rfl) rfl rfl rfl ?_
                exact awl_nil ⟨rfl, post_put⟩⟩⟩
            , ⟨_, rfl, fun sl hd hr ho => by
                refine r_move (hd 1 _ rfl rfl rfl) rfl ?_
                exact awl_nil ⟨rfl, post_put⟩⟩⟩
            , ⟨_, rfl, fun sl hd hr ho => by
                refine g_run rfl (hd 2 _ rfl rfl rfl) hg43 ?_
                refine r_move (hr 7 _ rfl rfl rfl) rfl ?_
                exact awl_nil ⟨rfl, post_put⟩⟩⟩
            , ⟨_, rfl, fun sl hd hr ho => by
                refine g_run rfl (hd 2 _ rfl rfl rfl) hg43 ?_
                refine r_move (hr 11 _ rfl rfl rfl) rfl ?_
                exact awl_nil ⟨rfl, post_put⟩⟩⟩
            , ⟨_, rfl, fun sl hd hr ho => by
                refine g_run rfl (hd 2 _ rfl rfl rfl) hg43 ?_
                refine r_ari _ (hd 4 _ rfl rfl rfl) rfl rfl (wrap_id (by omega)) rfl ?_
                exact awl_nil ⟨rfl, post_put⟩⟩⟩
            , ⟨_, rfl, fun sl hd hr ho => by
                refine g_run rfl (hd 2 _ rfl rfl rfl) hg43 ?_
                refine r_index (hd 3 _ rfl rfl rfl) rfl (hd 5 _ rfl rfl rfl) T.sl26 T.sz33 (by omega) (by rw [show ((k : Int) - 1).toNat = k - 1 by omega]; exact get_map hy) rfl ?_
                exact awl_nil ⟨rfl, post_put⟩⟩⟩
            , ⟨_, rfl, fun sl hd hr ho => by
                refine g_run rfl (hd 2 _ rfl rfl rfl) hg43 ?_
                first | (refine r_fieldcp (hd 6 _ rfl rfl rfl) T.f33_0 T.sz9 rfl ?_) | (refine r_fieldb (hd 6 _ rfl rfl rfl) T.f33_0 T.sz9 rfl ?_)
                exact awl_nil ⟨rfl, post_put⟩⟩⟩
            , ⟨_, rfl, fun sl hd hr ho => by
                refine g_run rfl (hd 2 _ rfl rfl rfl) hg43 ?_
                first | (refine r_load1 (hd 7 _ rfl rfl rfl) T.agg9 rfl ?_) | (refine r_load1b 0 (hd 7 _ rfl rfl rfl) rfl rfl T.agg9 rfl ?_)
                exact awl_nil ⟨rfl, post_put⟩⟩⟩
            , ⟨_, rfl, fun sl hd hr ho => by
                refine g_run rfl (hd 2 _ rfl rfl rfl) hg43 ?_
                first | (refine r_fieldcp (hr 12 _ rfl rfl rfl) T.f33_0 T.sz9 rfl ?_) | (refine r_fieldb (hr 12 _ rfl rfl rfl) T.f33_0 T.sz9 rfl ?_)
                exact awl_nil ⟨rfl, post_put⟩⟩⟩
            , ⟨_, rfl, fun sl hd hr ho => by
                refine g_run rfl (hd 2 _ rfl rfl rfl) hg43 ?_
                first | (refine r_load1 (hd 9 _ rfl rfl rfl) T.agg9 rfl ?_) | (refine r_load1b 0 (hd 9 _ rfl rfl rfl) rfl rfl T.agg9 rfl ?_)
                exact awl_nil ⟨rfl, post_put⟩⟩⟩
            (by rfl) ?_
          refine g_run rfl rfl hg43 ?_
          refine r_str2 rfl rfl rfl rfl ?_
          refine r_pickT rfl hg43 rfl rfl ?_
          refine awl_nil ?_
          refine x_then ?_
          refine awp_cond rfl (fun hc3 => ?_) (fun hc3 => ?_)
          ·
            exfalso; rw [hlt2] at hc3; cases hc3
          ·
            refine awp_skip ?_
            refine x_then ?_
            refine awp_seq ?_
            refine awp_region ?_
            first | (refine r_fieldcp rfl T.f33_2 T.sz4 rfl ?_) | (refine r_fieldb rfl T.f33_2 T.sz4 rfl ?_)
            first | (refine r_load1 rfl T.agg4 rfl ?_) | (refine r_load1b 0 rfl rfl rfl T.agg4 rfl ?_)
            refine awl_nil ?_
            refine x_then ?_
            refine awp_cond rfl (fun hc4 => ?_) (fun hc4 => ?_)
            ·
              rw [hc4] at e
              refine awp_region ?_
              refine r_move rfl rfl ?_
              refine r_ari _ rfl rfl rfl (wrap_id (by omega)) rfl ?_
              refine r_assign rfl rfl ?_
              refine awl_nil ?_
              refine x_block ?_
              refine x_then ?_
              refine awp_region ?_
              refine r_ari _ rfl rfl rfl (wrap_id (by omega)) rfl ?_
              refine r_move rfl rfl ?_
              refine awl_nil ?_
              refine x_then ?_
              refine ⟨cs.length - (k + 1), ⟨101, [(2, .a (u8A not)), (7, .a (choicesA cs)), (8, .a (files fs)), (9, .a (strsA ln)), (10, .a (.v (.int .i64 ((((cs.take (k + 1)).countP (·.whole)) : Nat))))), (34, .a (choicesA cs)), (35, .a (.v (.int .i64 ((cs.map Choice.cs).length)))), (36, .a (.v (.int .i64 (((k + 1) : Int)))))], []⟩, ⟨rfl, (Slots.cons rfl (by first | exact .refl _ | exact .nilOwn _ _ | exact .nilSl _ | exact .ownSl _ _ _ | exact SV.le.of_eq (by rw [e] <;> rfl)) (Slots.cons rfl (by first | exact .refl _ | exact .nilOwn _ _ | exact .nilSl _ | exact .ownSl _ _ _ | exact SV.le.of_eq (by rw [e] <;> rfl)) (Slots.cons rfl (by first | exact .refl _ | exact .nilOwn _ _ | exact .nilSl _ | exact .ownSl _ _ _ | exact SV.le.of_eq (by rw [e] <;> rfl)) (Slots.cons rfl (by first | exact .refl _ | exact .nilOwn _ _ | exact .nilSl _ | exact .ownSl _ _ _ | exact SV.le.of_eq (by rw [e] <;> rfl)) (Slots.cons rfl (by first | exact .refl _ | exact .nilOwn _ _ | exact .nilSl _ | exact .ownSl _ _ _ | exact SV.le.of_eq (by rw [e] <;> rfl)) (Slots.cons rfl (by first | exact .refl _ | exact .nilOwn _ _ | exact .nilSl _ | exact .ownSl _ _ _ | exact SV.le.of_eq (by rw [e] <;> rfl)) (Slots.cons rfl (by first | exact .refl _ | exact .nilOwn _ _ | exact .nilSl _ | exact .ownSl _ _ _ | exact SV.le.of_eq (by rw [e] <;> rfl)) (Slots.cons rfl (by first | exact .refl _ | exact .nilOwn _ _ | exact .nilSl _ | exact .ownSl _ _ _ | exact SV.le.of_eq (by rw [e] <;> rfl)) Slots.nil)))))))), (by first | exact List.Sublist.refl _ | exact List.nil_sublist _ | exact .cons _ (.refl _) | exact .cons _ (.cons _ (.refl _)) | exact .cons _ (.cons _ (.cons _ (.refl _))) | exact .cons _ (.cons _ (.cons _ (.cons _ (.refl _)))) | exact .cons_cons _ (List.nil_sublist _))⟩, (by omega), ⟨k + 1, rfl, rfl, (by have := (List.getElem?_eq_some_iff.1 hx).1; omega)⟩⟩
            ·
              rw [hc4] at e
              refine awp_skip ?_
              refine x_block ?_
              refine x_then ?_
              refine awp_region ?_
              refine r_ari _ rfl rfl rfl (wrap_id (by omega)) rfl ?_
              refine r_move rfl rfl ?_
              refine awl_nil ?_
              refine x_then ?_
              refine ⟨cs.length - (k + 1), ⟨101, [(2, .a (u8A not)), (7, .a (choicesA cs)), (8, .a (files fs)), (9, .a (strsA ln)), (10, .a (.v (.int .i64 ((((cs.take (k + 1)).countP (·.whole)) : Nat))))), (34, .a (choicesA cs)), (35, .a (.v (.int .i64 ((cs.map Choice.cs).length)))), (36, .a (.v (.int .i64 (((k + 1) : Int)))))], []⟩, ⟨rfl, (Slots.cons rfl (by first | exact .refl _ | exact .nilOwn _ _ | exact .nilSl _ | exact .ownSl _ _ _ | exact SV.le.of_eq (by rw [e] <;> rfl)) (Slots.cons rfl (by first | exact .refl _ | exact .nilOwn _ _ | exact .nilSl _ | exact .ownSl _ _ _ | exact SV.le.of_eq (by rw [e] <;> rfl)) (Slots.cons rfl (by first | exact .refl _ | exact .nilOwn _ _ | exact .nilSl _ | exact .ownSl _ _ _ | exact SV.le.of_eq (by rw [e] <;> rfl)) (Slots.cons rfl (by first | exact .refl _ | exact .nilOwn _ _ | exact .nilSl _ | exact .ownSl _ _ _ | exact SV.le.of_eq (by rw [e] <;> rfl)) (Slots.cons rfl (by first | exact .refl _ | exact .nilOwn _ _ | exact .nilSl _ | exact .ownSl _ _ _ | exact SV.le.of_eq (by rw [e] <;> rfl)) (Slots.cons rfl (by first | exact .refl _ | exact .nilOwn _ _ | exact .nilSl _ | exact .ownSl _ _ _ | exact SV.le.of_eq (by rw [e] <;> rfl)) (Slots.cons rfl (by first | exact .refl _ | exact .nilOwn _ _ | exact .nilSl _ | exact .ownSl _ _ _ | exact SV.le.of_eq (by rw [e] <;> rfl)) (Slots.cons rfl (by first | exact .refl _ | exact .nilOwn _ _ | exact .nilSl _ | exact .ownSl _ _ _ | exact SV.le.of_eq (by rw [e] <;> rfl)) Slots.nil)))))))), (by first | exact List.Sublist.refl _ | exact List.nil_sublist _ | exact .cons _ (.refl _) | exact .cons _ (.cons _ (.refl _)) | exact .cons _ (.cons _ (.cons _ (.refl _))) | exact .cons _ (.cons _ (.cons _ (.cons _ (.refl _)))) | exact .cons_cons _ (List.nil_sublist _))⟩, (by omega), ⟨k + 1, rfl, rfl, (by have := (List.getElem?_eq_some_iff.1 hx).1; omega)⟩⟩
        ·
          refine awp_drawS [41, 42, 43, 44, 45, 46, 47, 48, 49, 50, 51] [_, _, _, _, _, _, _, _, _, _, _] [] [] T.mixed rfl rfl rfl ⟨⟨⟨⟨⟨⟨⟨⟨⟨⟨⟨trivial
            , ⟨_, rfl, fun sl hd hr ho => by
                refine r_move (hr 11 _ rfl rfl rfl) rfl ?_
                exact awl_nil ⟨rfl, post_put⟩⟩⟩
            , ⟨_, rfl, fun sl hd hr ho => by
                refine r_cmp (hd 0 _ rfl rfl rfl) rfl rfl rfl ?_
                exact awl_nil ⟨rfl, post_put⟩⟩⟩
            , ⟨_, rfl, fun sl hd hr ho => by
                refine r_move (hd 1 _ rfl rfl rfl) rfl ?_
                exact awl_nil ⟨rfl, post_put⟩⟩⟩
            , ⟨_, rfl, fun sl hd hr ho => by
                refine g_skip rfl (hd 2 _ rfl rfl rfl) hg43 rfl ?_
                exact awl_nil ⟨rfl, post_put⟩⟩⟩
            , ⟨_, rfl, fun sl hd hr ho => by
                refine g_skip rfl (hd 2 _ rfl rfl rfl) hg43 rfl ?_
                exact awl_nil ⟨rfl, post_put⟩⟩⟩
            , ⟨_, rfl, fun sl hd hr ho => by
                refine g_skip rfl (hd 2 _ rfl rfl rfl) hg43 rfl ?_
                exact awl_nil ⟨rfl, post_put⟩⟩⟩
            , ⟨_, rfl, fun sl hd hr ho => by
                refine g_skip rfl (hd 2 _ rfl rfl rfl) hg43 rfl ?_
                exact awl_nil ⟨rfl, post_put⟩⟩⟩
            , ⟨_, rfl, fun sl hd hr ho => by
                refine g_skip rfl (hd 2 _ rfl rfl rfl) hg43 rfl ?_
                exact awl_nil ⟨rfl, post_put⟩⟩⟩
            , ⟨_, rfl, fun sl hd hr ho => by
                refine g_skip rfl (hd 2 _ rfl rfl rfl) hg43 rfl ?_
                exact awl_nil ⟨rfl, post_put⟩⟩⟩
            , ⟨_, rfl, fun sl hd hr ho => by
                refine g_skip rfl (hd 2 _ rfl rfl rfl) hg43 rfl ?_
                exact awl_nil ⟨rfl, post_put⟩⟩⟩
            , ⟨_, rfl, fun sl hd hr ho => by
                refine g_skip rfl (hd 2 _ rfl rfl rfl) hg43 rfl ?_
                exact awl_nil ⟨rfl, post_put⟩⟩⟩
            (by rfl) ?_
          refine g_skip rfl rfl hg43 rfl ?_
          refine r_pickF rfl hg43 rfl rfl ?_
          refine awl_nil ?_
          refine x_then ?_
          refine awp_condF rfl ?_
          refine awp_skip ?_
          refine x_then ?_
          refine awp_seq ?_
          refine awp_region ?_
          first | (refine r_fieldcp rfl T.f33_2 T.sz4 rfl ?_) | (refine r_fieldb rfl T.f33_2 T.sz4 rfl ?_)
          first | (refine r_load1 rfl T.agg4 rfl ?_) | (refine r_load1b 0 rfl rfl rfl T.agg4 rfl ?_)
          refine awl_nil ?_
          refine x_then ?_
          refine awp_cond rfl (fun hc4 => ?_) (fun hc4 => ?_)
          ·
            rw [hc4] at e
            refine awp_region ?_
            refine r_move rfl rfl ?_
            refine r_ari _ rfl rfl rfl (wrap_id (by omega)) rfl ?_
            refine r_assign rfl rfl ?_
            refine awl_nil ?_
            refine x_block ?_
            refine x_then ?_
            refine awp_region ?_
            refine r_ari _ rfl rfl rfl (wrap_id (by omega)) rfl ?_
            refine r_move rfl rfl ?_
            refine awl_nil ?_
            refine x_then ?_
            refine ⟨cs.length - (k + 1), ⟨101, [(2, .a (u8A not)), (7, .a (choicesA cs)), (8, .a (files fs)), (9, .a (strsA ln)), (10, .a (.v (.int .i64 ((((cs.take (k + 1)).countP (·.whole)) : Nat))))), (34, .a (choicesA cs)), (35, .a (.v (.int .i64 ((cs.map Choice.cs).length)))), (36, .a (.v (.int .i64 (((k + 1) : Int)))))], []⟩, ⟨rfl, (Slots.cons rfl (by first | exact .refl _ | exact .nilOwn _ _ | exact .nilSl _ | exact .ownSl _ _ _ | exact SV.le.of_eq (by rw [e] <;> rfl)) (Slots.cons rfl (by first | exact .refl _ | exact .nilOwn _ _ | exact .nilSl _ | exact .ownSl _ _ _ | exact SV.le.of_eq (by rw [e] <;> rfl)) (Slots.cons rfl (by first | exact .refl _ | exact .nilOwn _ _ | exact .nilSl _ | exact .ownSl _ _ _ | exact SV.le.of_eq (by rw [e] <;> rfl)) (Slots.cons rfl (by first | exact .refl _ | exact .nilOwn _ _ | exact .nilSl _ | exact .ownSl _ _ _ | exact SV.le.of_eq (by rw [e] <;> rfl)) (Slots.cons rfl (by first | exact .refl _ | exact .nilOwn _ _ | exact .nilSl _ | exact .ownSl _ _ _ | exact SV.le.of_eq (by rw [e] <;> rfl)) (Slots.cons rfl (by first | exact .refl _ | exact .nilOwn _ _ | exact .nilSl _ | exact .ownSl _ _ _ | exact SV.le.of_eq (by rw [e] <;> rfl)) (Slots.cons rfl (by first | exact .refl _ | exact .nilOwn _ _ | exact .nilSl _ | exact .ownSl _ _ _ | exact SV.le.of_eq (by rw [e] <;> rfl)) (Slots.cons rfl (by first | exact .refl _ | exact .nilOwn _ _ | exact .nilSl _ | exact .ownSl _ _ _ | exact SV.le.of_eq (by rw [e] <;> rfl)) Slots.nil)))))))), (by first | exact List.Sublist.refl _ | exact List.nil_sublist _ | exact .cons _ (.refl _) | exact .cons _ (.cons _ (.refl _)) | exact .cons _ (.cons _ (.cons _ (.refl _))) | exact .cons _ (.cons _ (.cons _ (.cons _ (.refl _)))) | exact .cons_cons _ (List.nil_sublist _))⟩, (by omega), ⟨k + 1, rfl, rfl, (by have := (List.getElem?_eq_some_iff.1 hx).1; omega)⟩⟩
          ·
            rw [hc4] at e
            refine awp_skip ?_
            refine x_block ?_
            refine x_then ?_
            refine awp_region ?_
            refine r_ari _ rfl rfl rfl (wrap_id (by omega)) rfl ?_
            refine r_move rfl rfl ?_
            refine awl_nil ?_
            refine x_then ?_
            refine ⟨cs.length - (k + 1), ⟨101, [(2, .a (u8A not)), (7, .a (choicesA cs)), (8, .a (files fs)), (9, .a (strsA ln)), (10, .a (.v (.int .i64 ((((cs.take (k + 1)).countP (·.whole)) : Nat))))), (34, .a (choicesA cs)), (35, .a (.v (.int .i64 ((cs.map Choice.cs).length)))), (36, .a (.v (.int .i64 (((k + 1) : Int)))))], []⟩, ⟨rfl, (Slots.cons rfl (by first | exact .refl _ | exact .nilOwn _ _ | exact .nilSl _ | exact .ownSl _ _ _ | exact SV.le.of_eq (by rw [e] <;> rfl)) (Slots.cons rfl (by first | exact .refl _ | exact .nilOwn _ _ | exact .nilSl _ | exact .ownSl _ _ _ | exact SV.le.of_eq (by rw [e] <;> rfl)) (Slots.cons rfl (by first | exact .refl _ | exact .nilOwn _ _ | exact .nilSl _ | exact .ownSl _ _ _ | exact SV.le.of_eq (by rw [e] <;> rfl)) (Slots.cons rfl (by first | exact .refl _ | exact .nilOwn _ _ | exact .nilSl _ | exact .ownSl _ _ _ | exact SV.le.of_eq (by rw [e] <;> rfl)) (Slots.cons rfl (by first | exact .refl _ | exact .nilOwn _ _ | exact .nilSl _ | exact .ownSl _ _ _ | exact SV.le.of_eq (by rw [e] <;> rfl)) (Slots.cons rfl (by first | exact .refl _ | exact .nilOwn _ _ | exact .nilSl _ | exact .ownSl _ _ _ | exact SV.le.of_eq (by rw [e] <;> rfl)) (Slots.cons rfl (by first | exact .refl _ | exact .nilOwn _ _ | exact .nilSl _ | exact .ownSl _ _ _ | exact SV.le.of_eq (by rw [e] <;> rfl)) (Slots.cons rfl (by first | exact .refl _ | exact .nilOwn _ _ | exact .nilSl _ | exact .ownSl _ _ _ | exact SV.le.of_eq (by rw [e] <;> rfl)) Slots.nil)))))))), (by first | exact List.Sublist.refl _ | exact List.nil_sublist _ | exact .cons _ (.refl _) | exact .cons _ (.cons _ (.refl _)) | exact .cons _ (.cons _ (.cons _ (.refl _))) | exact .cons _ (.cons _ (.cons _ (.cons _ (.refl _)))) | exact .cons_cons _ (List.nil_sublist _))⟩, (by omega), ⟨k + 1, rfl, rfl, (by have := (List.getElem?_eq_some_iff.1 hx).1; omega)⟩⟩
      ·
        have hge : cs.length ≤ k := by have := of_decide_eq_false hc2; simp at this; omega
        have hkl : cs.take k = cs := List.take_of_length_le hge
        rw [hkl]
        have hcnt : cs.countP (·.whole) ≤ cs.length := List.countP_le_length
        generalize cs.countP (·.whole) = many at hfl hll hcnt ⊢
        have hmin : ((fs.map File.cs).length : Int) = min (many : Int) 8 := by rw [List.length_map, hfl, Nat.min_def, Int.min_def]; split <;> split <;> omega
        refine awp_exit ?_
        refine x_thenE ?_
        refine x_thenE ?_
        refine x_blockE ?_
        refine x_then ?_
        refine awp_seq ?_
        refine awp_seq ?_
        refine awp_region ?_
        refine r_move rfl rfl ?_
        first | (refine r_lenS rfl rfl T.sl41 rfl ?_) | (refine r_lenNil rfl T.sl41 rfl ?_)
        refine r_move rfl rfl ?_
        refine r_min rfl rfl rfl ?_
        refine r_cmp rfl rfl rfl rfl ?_
        refine r_move rfl rfl ?_
        refine g_run rfl rfl (by rw [hmin]; simp) ?_
        refine r_move rfl rfl ?_
        refine g_run rfl rfl (by rw [hmin]; simp) ?_
        first | (refine r_lenS rfl rfl T.sl46 rfl ?_) | (refine r_lenNil rfl T.sl46 rfl ?_)
        refine g_run rfl rfl (by rw [hmin]; simp) ?_
        refine r_move rfl rfl ?_
        refine g_run rfl rfl (by rw [hmin]; simp) ?_
        first | (refine r_lenS rfl rfl T.sl26 rfl ?_) | (refine r_lenNil rfl T.sl26 rfl ?_)
        refine g_run rfl rfl (by rw [hmin]; simp) ?_
        refine r_move rfl rfl ?_
        refine g_run rfl rfl (by rw [hmin]; simp) ?_
        refine r_ari _ rfl rfl rfl (wrap_id (by rw [List.length_map]; omega)) rfl ?_
        refine g_run rfl rfl (by rw [hmin]; simp) ?_
        refine r_cmp rfl rfl rfl rfl ?_
        refine r_pickF rfl (by rw [hmin]; simp) rfl rfl ?_
        refine awl_nil ?_
        refine x_then ?_
        refine awp_cond rfl (fun hc5 => ?_) (fun hc5 => ?_)
        ·
          exfalso; have : ((ln.map fun s => [AV.v (.string s)]).length : Int) = ((cs.map Choice.cs).length : Int) - many := by rw [List.length_map, List.length_map]; omega
          rw [this] at hc5; simp at hc5
        ·
          refine awp_skip ?_
          refine x_then ?_
          refine awp_seq ?_
          refine awp_region ?_
          refine r_makeMap (ek := Value.string) (ev := boolA) [] rfl rfl (fun b73 => ?_)
          refine r_assign rfl rfl ?_
          refine awl_nil ?_
          refine x_then ?_
          refine awp_seq ?_
          refine awp_seq ?_
          refine awp_region ?_
          refine r_move rfl rfl ?_
          first | (refine r_lenS rfl rfl T.sl46 rfl ?_) | (refine r_lenNil rfl T.sl46 rfl ?_)
          refine r_move rfl rfl ?_
          refine awl_nil ?_
          refine x_then ?_
          refine awp_block ?_
          refine awp_loop (fun n S => ∃ k : Nat, S = ⟨101, [(2, .a (u8A not)), (8, .a (files fs)), (13, .a (.v (.map (some b73)))), (74, .a (strsA ln)), (75, .a (.v (.int .i64 ((ln.map fun s => [AV.v (.string s)]).length)))), (76, .a (.v (.int .i64 ((k : Int)))))], [⟨b73, true, .map (encM Value.string boolA ((ln.take k).foldl (fun m s => mset m s true) []))⟩]⟩ ∧ n = ln.length - k ∧ (k ≤ ln.length)) (ln.length - (0)) ⟨101, [(2, .a (u8A not)), (8, .a (files fs)), (13, .a (.v (.map (some b73)))), (74, .a (strsA ln)), (75, .a (.v (.int .i64 ((ln.map fun s => [AV.v (.string s)]).length)))), (76, .a (.v (.int .i64 (((0) : Int)))))], [⟨b73, true, .map (encM Value.string boolA ((ln.take (0)).foldl (fun m s => mset m s true) []))⟩]⟩ ⟨rfl, (Slots.cons rfl (by first | exact .refl _ | exact .nilOwn _ _ | exact .nilSl _ | exact .ownSl _ _ _ | exact SV.le.of_eq (by simp)) (Slots.cons rfl (by first | exact .refl _ | exact .nilOwn _ _ | exact .nilSl _ | exact .ownSl _ _ _ | exact SV.le.of_eq (by simp)) (Slots.cons rfl (by first | exact .refl _ | exact .nilOwn _ _ | exact .nilSl _ | exact .ownSl _ _ _ | exact SV.le.of_eq (by simp)) (Slots.cons rfl (by first | exact .refl _ | exact .nilOwn _ _ | exact .nilSl _ | exact .ownSl _ _ _ | exact SV.le.of_eq (by simp)) (Slots.cons rfl (by first | exact .refl _ | exact .nilOwn _ _ | exact .nilSl _ | exact .ownSl _ _ _ | exact SV.le.of_eq (by simp)) (Slots.cons rfl (by first | exact .refl _ | exact .nilOwn _ _ | exact .nilSl _ | exact .ownSl _ _ _ | exact SV.le.of_eq (by simp)) Slots.nil)))))), (by first | exact List.Sublist.refl _ | exact List.nil_sublist _ | exact .cons _ (.refl _) | exact .cons _ (.cons _ (.refl _)) | exact .cons _ (.cons _ (.cons _ (.refl _))) | exact .cons _ (.cons _ (.cons _ (.cons _ (.refl _)))) | exact .cons_cons _ (List.nil_sublist _))⟩ ⟨0, rfl, rfl, Nat.zero_le _⟩ ?_
          rintro n _ ⟨k, rfl, rfl, hk⟩
          refine awp_seq ?_
          refine awp_region ?_
          refine r_cmp rfl rfl rfl rfl ?_
          refine awl_nil ?_
          refine x_then ?_
          refine awp_seq ?_
          refine awp_cond rfl (fun hc6 => ?_) (fun hc6 => ?_)
          ·
            have hlt : k < ln.length := by have := of_decide_eq_true hc6; simpa using this
            obtain ⟨x, hx⟩ := get_lt hlt
            have e : ((ln.take (k + 1)).foldl (fun m s => mset m s true) []) = mset ((ln.take k).foldl (fun m s => mset m s true) []) x true := fold_take hx
            refine awp_skip ?_
            refine x_then ?_
            refine awp_seq ?_
            refine awp_block ?_
            refine awp_seq ?_
            refine awp_region ?_
            refine r_index rfl rfl rfl T.sl46 T.sz9 (by omega) (get_map hx) rfl ?_
            first | (refine r_load1 rfl T.agg9 rfl ?_) | (refine r_load1b 0 rfl rfl rfl T.agg9 rfl ?_)
            refine r_assign rfl rfl ?_
            refine awl_nil ?_
            refine x_then ?_
            refine awp_region ?_
            refine r_move rfl rfl ?_
            refine r_move rfl rfl ?_
            refine r_mapUpdate 0 (keyEnc_string T.un9) (ev := boolA) true rfl rfl rfl rfl rfl T.map53 ?_
            refine awl_nil ?_
            refine x_block ?_
            refine x_then ?_
            refine awp_region ?_
            refine r_ari _ rfl rfl rfl (wrap_id (by omega)) rfl ?_
            refine r_move rfl rfl ?_
            refine awl_nil ?_
            refine x_then ?_
            refine ⟨ln.length - (k + 1), ⟨101, [(2, .a (u8A not)), (8, .a (files fs)), (13, .a (.v (.map (some b73)))), (74, .a (strsA ln)), (75, .a (.v (.int .i64 ((ln.map fun s => [AV.v (.string s)]).length)))), (76, .a (.v (.int .i64 (((k + 1) : Int)))))], [⟨b73, true, .map (encM Value.string boolA ((ln.take (k + 1)).foldl (fun m s => mset m s true) []))⟩]⟩, ⟨rfl, (Slots.cons rfl (by first | exact .refl _ | exact .nilOwn _ _ | exact .nilSl _ | exact .ownSl _ _ _ | exact SV.le.of_eq (by simp)) (Slots.cons rfl (by first | exact .refl _ | exact .nilOwn _ _ | exact .nilSl _ | exact .ownSl _ _ _ | exact SV.le.of_eq (by simp)) (Slots.cons rfl (by first | exact .refl _ | exact .nilOwn _ _ | exact .nilSl _ | exact .ownSl _ _ _ | exact SV.le.of_eq (by simp)) (Slots.cons rfl (by first | exact .refl _ | exact .nilOwn _ _ | exact .nilSl _ | exact .ownSl _ _ _ | exact SV.le.of_eq (by simp)) (Slots.cons rfl (by first | exact .refl _ | exact .nilOwn _ _ | exact .nilSl _ | exact .ownSl _ _ _ | exact SV.le.of_eq (by simp)) (Slots.cons rfl (by first | exact .refl _ | exact .nilOwn _ _ | exact .nilSl _ | exact .ownSl _ _ _ | exact SV.le.of_eq (by simp)) Slots.nil)))))), (by rw [e]; first | exact List.Sublist.refl _ | exact List.nil_sublist _ | exact .cons _ (.refl _) | exact .cons _ (.cons _ (.refl _)) | exact .cons _ (.cons _ (.cons _ (.refl _))) | exact .cons _ (.cons _ (.cons _ (.cons _ (.refl _)))) | exact .cons_cons _ (List.nil_sublist _))⟩, (by omega), ⟨k + 1, rfl, rfl, (by have := (List.getElem?_eq_some_iff.1 hx).1; omega)⟩⟩
          ·
            have hge : ln.length ≤ k := by have := of_decide_eq_false hc6; simp at this; omega
            have hkl : ln.take k = ln := List.take_of_length_le hge
            rw [hkl]
            refine awp_exit ?_
            refine x_thenE ?_
            refine x_thenE ?_
            refine x_blockE ?_
            refine x_then ?_
            refine awp_seq ?_
            refine awp_seq ?_
            refine awp_region ?_
            refine r_move rfl rfl ?_
            first | (refine r_lenS rfl rfl T.sl41 rfl ?_) | (refine r_lenNil rfl T.sl41 rfl ?_)
            refine r_move rfl rfl ?_
            refine awl_nil ?_
            refine x_then ?_
            refine awp_block ?_
            refine awp_loop (fun n S => ∃ k : Nat, S = ⟨101, [(2, .a (u8A not)), (13, .a (.v (.map (some b73)))), (83, .a (files fs)), (84, .a (.v (.int .i64 ((fs.map File.cs).length)))), (85, .a (.v (.int .i64 ((k : Int)))))], [⟨b73, true, .map (encM Value.string boolA (ln.foldl (fun m s => mset m s true) []))⟩]⟩ ∧ n = fs.length - k ∧ (k ≤ fs.length)) (fs.length - (0)) ⟨101, [(2, .a (u8A not)), (13, .a (.v (.map (some b73)))), (83, .a (files fs)), (84, .a (.v (.int .i64 ((fs.map File.cs).length)))), (85, .a (.v (.int .i64 (((0) : Int)))))], [⟨b73, true, .map (encM Value.string boolA (ln.foldl (fun m s => mset m s true) []))⟩]⟩ ⟨rfl, (Slots.cons rfl (by first | exact .refl _ | exact .nilOwn _ _ | exact .nilSl _ | exact .ownSl _ _ _ | exact SV.le.of_eq (by simp)) (Slots.cons rfl (by first | exact .refl _ | exact .nilOwn _ _ | exact .nilSl _ | exact .ownSl _ _ _ | exact SV.le.of_eq (by simp)) (Slots.cons rfl (by first | exact .refl _ | exact .nilOwn _ _ | exact .nilSl _ | exact .ownSl _ _ _ | exact SV.le.of_eq (by simp)) (Slots.cons rfl (by first | exact .refl _ | exact .nilOwn _ _ | exact .nilSl _ | exact .ownSl _ _ _ | exact SV.le.of_eq (by simp)) (Slots.cons rfl (by first | exact .refl _ | exact .nilOwn _ _ | exact .nilSl _ | exact .ownSl _ _ _ | exact SV.le.of_eq (by simp)) Slots.nil))))), (by first | exact List.Sublist.refl _ | exact List.nil_sublist _ | exact .cons _ (.refl _) | exact .cons _ (.cons _ (.refl _)) | exact .cons _ (.cons _ (.cons _ (.refl _))) | exact .cons _ (.cons _ (.cons _ (.cons _ (.refl _)))) | exact .cons_cons _ (List.nil_sublist _))⟩ ⟨0, rfl, rfl, Nat.zero_le _⟩ ?_
            rintro n _ ⟨k, rfl, rfl, hk⟩
            refine awp_seq ?_
            refine awp_region ?_
            refine r_cmp rfl rfl rfl rfl ?_
            refine awl_nil ?_
            refine x_then ?_
            refine awp_seq ?_
            refine awp_cond rfl (fun hc7 => ?_) (fun hc7 => ?_)
            ·
              have hlt : k < fs.length := by have := of_decide_eq_true hc7; simpa using this
              obtain ⟨x, hx⟩ := get_lt hlt
              have hm0 := setOf_none (hfa x (List.mem_of_getElem? hx))
              obtain ⟨c, hcm, hcw, _, hcd⟩ := hfw x (List.mem_of_getElem? hx)
              have hxw : wholeB not x.data = true := hcd ▸ hp.whole c hcm hcw
              have hxl := hcd ▸ (hp.size c hcm).2
              refine awp_skip ?_
              refine x_then ?_
              refine awp_seq ?_
              refine awp_block ?_
              refine awp_seq ?_
              refine awp_region ?_
              refine r_index rfl rfl rfl T.sl41 T.sz50 (by omega) (get_map hx) rfl ?_
              first | (refine r_loadA rfl T.agg50 T.sz50 rfl rfl ?_) | (refine r_loadAb 0 rfl rfl T.agg50 T.sz50 rfl rfl ?_)
              refine r_alloc T.zero50 rfl (fun b17 => ?_)
              first | (refine r_store 0 rfl rfl rfl T.sz50 rfl rfl rfl ?_) | (refine r_store 1 rfl rfl rfl T.sz50 rfl rfl rfl ?_)
              refine awl_nil ?_
              refine x_then ?_
              refine awp_seq ?_
              refine awp_region ?_
              refine r_move rfl rfl ?_
              first | (refine r_fieldcp rfl T.f50_0 T.sz9 rfl ?_) | (refine r_fieldb rfl T.f50_0 T.sz9 rfl ?_)
              first | (refine r_load1 rfl T.agg9 rfl ?_) | (refine r_load1b 0 rfl rfl rfl T.agg9 rfl ?_) | (refine r_load1b 1 rfl rfl rfl T.agg9 rfl ?_)
              first | (refine r_lookup 0 (keyEnc_string T.un9) (ev := boolA) false rfl rfl rfl T.map53 T.zav4 rfl ?_) | (refine r_lookup 1 (keyEnc_string T.un9) (ev := boolA) false rfl rfl rfl T.map53 T.zav4 rfl ?_)
              refine r_move rfl rfl ?_
              refine g_run rfl rfl hm0 ?_
              first | (refine r_fieldcp rfl T.f50_1 T.sz31 rfl ?_) | (refine r_fieldb rfl T.f50_1 T.sz31 rfl ?_)
              refine g_run rfl rfl hm0 ?_
              first | (refine r_load1 rfl T.agg31 rfl ?_) | (refine r_load1b 0 rfl rfl rfl T.agg31 rfl ?_) | (refine r_load1b 1 rfl rfl rfl T.agg31 rfl ?_)
              refine g_run rfl rfl hm0 ?_
              refine r_move rfl rfl ?_
              refine g_run rfl rfl hm0 ?_
              refine r_call0 rfl rfl (.cons (.ev rfl rfl) (.cons (.ev rfl rfl) .nil)) (whole_ok x.data not hxl) rfl T.en21 rfl (fun r hr => ?_)
              obtain rfl := hr
              refine g_run rfl rfl hm0 ?_
              refine r_not rfl rfl ?_
              refine r_pickF rfl hm0 rfl rfl ?_
              refine awl_nil ?_
              refine x_then ?_
              refine awp_cond rfl (fun hc8 => ?_) (fun hc8 => ?_)
              ·
                exfalso; rw [hxw] at hc8; cases hc8
              ·
                refine awp_skip ?_
                refine x_block ?_
                refine x_then ?_
                refine awp_region ?_
                refine r_ari _ rfl rfl rfl (wrap_id (by omega)) rfl ?_
                refine r_move rfl rfl ?_
                refine awl_nil ?_
                refine x_then ?_
                refine ⟨fs.length - (k + 1), ⟨101, [(2, .a (u8A not)), (13, .a (.v (.map (some b73)))), (83, .a (files fs)), (84, .a (.v (.int .i64 ((fs.map File.cs).length)))), (85, .a (.v (.int .i64 (((k + 1) : Int)))))], [⟨b73, true, .map (encM Value.string boolA (ln.foldl (fun m s => mset m s true) []))⟩]⟩, ⟨rfl, (Slots.cons rfl (by first | exact .refl _ | exact .nilOwn _ _ | exact .nilSl _ | exact .ownSl _ _ _ | exact SV.le.of_eq (by simp)) (Slots.cons rfl (by first | exact .refl _ | exact .nilOwn _ _ | exact .nilSl _ | exact .ownSl _ _ _ | exact SV.le.of_eq (by simp)) (Slots.cons rfl (by first | exact .refl _ | exact .nilOwn _ _ | exact .nilSl _ | exact .ownSl _ _ _ | exact SV.le.of_eq (by simp)) (Slots.cons rfl (by first | exact .refl _ | exact .nilOwn _ _ | exact .nilSl _ | exact .ownSl _ _ _ | exact SV.le.of_eq (by simp)) (Slots.cons rfl (by first | exact .refl _ | exact .nilOwn _ _ | exact .nilSl _ | exact .ownSl _ _ _ | exact SV.le.of_eq (by simp)) Slots.nil))))), (by first | exact List.Sublist.refl _ | exact List.nil_sublist _ | exact .cons _ (.refl _) | exact .cons _ (.cons _ (.refl _)) | exact .cons _ (.cons _ (.cons _ (.refl _))) | exact .cons _ (.cons _ (.cons _ (.cons _ (.refl _)))) | exact .cons_cons _ (List.nil_sublist _))⟩, (by omega), ⟨k + 1, rfl, rfl, (by have := (List.getElem?_eq_some_iff.1 hx).1; omega)⟩⟩
            ·
              have hge : fs.length ≤ k := by have := of_decide_eq_false hc7; simp at this; omega
              refine awp_exit ?_
              refine x_thenE ?_
              refine x_thenE ?_
              refine x_blockE ?_
              refine x_then ?_
              refine awp_seq ?_
              refine awp_region ?_
              refine r_assign rfl rfl ?_
              refine awl_nil ?_
              refine x_then ?_
              refine awp_ret ?_
              exact ⟨(.inl rfl), _, [], (.one (by first | exact .mk rfl rfl | exact .nil rfl)), ⟨rfl, rfl⟩, (List.nil_sublist _), (by simp)⟩

end Go.Proofs.Ytpoacfbobalpkaa.A

/- Layer 31: walks of the document's functions. -/
import Derived.Test.YtaglbmgpdoophaaProg
import Derived.KernelRfl
import Derived.Test.YtaglbmgpdoophaaX31E
namespace Go.Proofs.Ytaglbmgpdoophaa.A
open Go Go.RowKit
set_option linter.unusedVariables false
set_option linter.unusedSimpArgs false
set_option maxRecDepth 100000

theorem TD.en68 : entersT Try.prog 68 := enters_of Try.func68 (by kernel_rfl) (by kernel_rfl)
theorem TD.en69 : entersT Try.prog 69 := enters_of Try.func69 (by kernel_rfl) (by kernel_rfl)
theorem TD.pl113 : placesT Try.prog 113 = some [(0, 1), (1, 1), (2, 1), (3, 1)] := by kernel_rfl
theorem TD.f113_0 : fieldT Try.prog 113 0 = some (0, 3) := by kernel_rfl
theorem TD.f113_1 : fieldT Try.prog 113 1 = some (1, 3) := by kernel_rfl
theorem TD.f113_2 : fieldT Try.prog 113 2 = some (2, 79) := by kernel_rfl
theorem TD.f113_3 : fieldT Try.prog 113 3 = some (3, 79) := by kernel_rfl
theorem TD.en32 : entersT Try.prog 32 := enters_of Try.func32 (by kernel_rfl) (by kernel_rfl)

theorem tells_ok (l : List Ent) (vol blk : Int) (hl : l.length ≤ 1000000) : AC Try.prog 69 [entsA l, .v (.int .i64 vol), .v (.int .i64 blk)] [] (fun r n => n = [] ∧ r = numA (shows l (vol, blk))) := by
  refine ac_of_awp (rs := [6]) (nt := 35) Try.func69 rfl rfl rfl rfl (fun w0 C0 hq => ?_)
  refine awp_seq ?_
  refine awp_region ?_
  refine r_assign rfl rfl ?_
  refine awl_nil ?_
  refine x_then ?_
  refine awp_seq ?_
  refine awp_seq ?_
  refine awp_region ?_
  refine r_assign rfl rfl ?_
  refine awl_nil ?_
  refine x_then ?_
  refine awp_block ?_
  refine awp_loop (fun nn0 S => ∃ k : Nat, S = ⟨35, [(0, .a (entsA l)), (1, .a (.v (.int .i64 vol))), (2, .a (.v (.int .i64 blk))), (7, .a (.v (.int .i64 ((k : Int)))))], []⟩ ∧ nn0 = l.length - k ∧ (k ≤ l.length) ∧ ((l.take k).find? (fun e : Ent => decide (e.pl = (vol, blk))) = none)) (l.length - (0)) ⟨35, [(0, .a (entsA l)), (1, .a (.v (.int .i64 vol))), (2, .a (.v (.int .i64 blk))), (7, .a (.v (.int .i64 (((0) : Int)))))], []⟩ ⟨rfl, (Slots.cons rfl (by first | exact .refl _ | exact .nilOwn _ _ | exact .nilSl _ | exact .ownSl _ _ _  | exact SV.le.of_eq (by simp)) (Slots.cons rfl (by first | exact .refl _ | exact .nilOwn _ _ | exact .nilSl _ | exact .ownSl _ _ _  | exact SV.le.of_eq (by simp)) (Slots.cons rfl (by first | exact .refl _ | exact .nilOwn _ _ | exact .nilSl _ | exact .ownSl _ _ _  | exact SV.le.of_eq (by simp)) (Slots.cons rfl (by first | exact .refl _ | exact .nilOwn _ _ | exact .nilSl _ | exact .ownSl _ _ _  | exact SV.le.of_eq (by simp)) Slots.nil)))), (by first | exact List.Sublist.refl _ | exact .cons_cons _ (.cons _ (.refl _)) | exact List.nil_sublist _ | exact .cons _ (.refl _) | exact .cons _ (.cons _ (.refl _)) | exact .cons _ (.cons _ (.cons _ (.refl _))) | exact .cons _ (.cons _ (.cons _ (.cons _ (.refl _)))) | exact .cons_cons _ (List.nil_sublist _))⟩ ⟨0, rfl, rfl, Nat.zero_le _, rfl⟩ ?_
  rintro nn0 _ ⟨k, rfl, rfl, hk, hno⟩
  refine awp_seq ?_
  refine awp_seq ?_
  refine awp_region ?_
  refine r_move rfl rfl ?_
  refine r_move rfl rfl ?_
  first | (refine r_lenS rfl rfl TD.sl22 rfl ?_) | (refine r_lenNil rfl TD.sl22 rfl ?_)
  refine r_cmp rfl rfl rfl rfl ?_
  refine awl_nil ?_
  refine x_then ?_
  refine awp_cond rfl (fun hc0 => ?_) (fun hc0 => ?_)
  ·
    have hltx : k < l.length := by have := of_decide_eq_true hc0; simpa using this
    obtain ⟨x, hx⟩ := get_lt hltx
    refine awp_skip ?_
    refine x_then ?_
    refine awp_seq ?_
    refine awp_block ?_
    refine awp_seq ?_
    refine awp_region ?_
    refine r_move rfl rfl ?_
    refine r_move rfl rfl ?_
    refine r_index rfl rfl rfl TD.sl22 TD.sz110 (by omega) (get_map hx) rfl ?_
    first | (refine r_fieldcp rfl TD.f110_0 TD.sz3 rfl ?_) | (refine r_fieldb rfl TD.f110_0 TD.sz3 rfl ?_)
    refine r_load1 rfl TD.agg3 rfl ?_
    refine r_move rfl rfl ?_
    refine r_cmp rfl rfl rfl rfl ?_
    refine r_move rfl rfl ?_
    refine g_cases (t' := 21) rfl (fun hg21 => ?_) (fun hg21 => ?_)
    ·
      have hv : x.vol = vol := eq_of_beq hg21
      refine g_run rfl rfl hg21 ?_
      refine r_move rfl rfl ?_
      refine g_run rfl rfl hg21 ?_
      refine r_move rfl rfl ?_
      refine g_run rfl rfl hg21 ?_
      refine r_index rfl rfl rfl TD.sl22 TD.sz110 (by omega) (get_map hx) rfl ?_
      refine g_run rfl rfl hg21 ?_
      first | (refine r_fieldcp rfl TD.f110_1 TD.sz3 rfl ?_) | (refine r_fieldb rfl TD.f110_1 TD.sz3 rfl ?_)
      refine g_run rfl rfl hg21 ?_
      refine r_load1 rfl TD.agg3 rfl ?_
      refine g_run rfl rfl hg21 ?_
      refine r_move rfl rfl ?_
      refine g_run rfl rfl hg21 ?_
      refine r_cmp rfl rfl rfl rfl ?_
      refine r_pickT rfl hg21 rfl rfl ?_
      refine awl_nil ?_
      refine x_then ?_
      refine awp_cond rfl (fun hc1 => ?_) (fun hc1 => ?_)
      ·
        have hb : x.blk = blk := eq_of_beq hc1
        refine awp_seq ?_
        refine awp_region ?_
        refine r_move rfl rfl ?_
        refine r_move rfl rfl ?_
        refine r_index rfl rfl rfl TD.sl22 TD.sz110 (by omega) (get_map hx) rfl ?_
        first | (refine r_fieldcp rfl TD.f110_2 TD.sz79 rfl ?_) | (refine r_fieldb rfl TD.f110_2 TD.sz79 rfl ?_)
        refine r_load1 rfl TD.agg79 rfl ?_
        refine r_assign rfl rfl ?_
        refine awl_nil ?_
        refine x_then ?_
        refine awp_ret ?_
        refine x_blockR ?_
        refine x_thenR ?_
        refine x_thenR ?_
        refine x_blockR ?_
        refine x_thenR ?_
        exact ⟨(.inl rfl), _, [], (.one (by first | exact .mk rfl rfl | exact .nil rfl)), ⟨rfl, by rw [show_hit hx (by simp [Ent.pl, hv, hb]) hno]; rfl⟩, (List.nil_sublist _), (by simp)⟩
      ·
        have hne : ¬ x.pl = (vol, blk) := fun e => (show ¬ x.blk = blk by simpa using hc1) (congrArg Prod.snd e)
        refine awp_skip ?_
        refine x_block ?_
        refine x_then ?_
        refine awp_region ?_
        refine r_move rfl rfl ?_
        refine r_ari _ rfl rfl rfl (wrap_id (by first | omega | (simp; omega))) rfl ?_
        refine r_assign rfl rfl ?_
        refine awl_nil ?_
        refine x_then ?_
        refine ⟨l.length - (k + 1), ⟨35, [(0, .a (entsA l)), (1, .a (.v (.int .i64 vol))), (2, .a (.v (.int .i64 blk))), (7, .a (.v (.int .i64 (((k + 1) : Int)))))], []⟩, ⟨rfl, (Slots.cons rfl (by first | exact .refl _ | exact .nilOwn _ _ | exact .nilSl _ | exact .ownSl _ _ _  | exact SV.le.of_eq (by simp)) (Slots.cons rfl (by first | exact .refl _ | exact .nilOwn _ _ | exact .nilSl _ | exact .ownSl _ _ _  | exact SV.le.of_eq (by simp)) (Slots.cons rfl (by first | exact .refl _ | exact .nilOwn _ _ | exact .nilSl _ | exact .ownSl _ _ _  | exact SV.le.of_eq (by simp)) (Slots.cons rfl (by first | exact .refl _ | exact .nilOwn _ _ | exact .nilSl _ | exact .ownSl _ _ _  | exact SV.le.of_eq (by simp)) Slots.nil)))), (by first | exact List.Sublist.refl _ | exact .cons_cons _ (.cons _ (.refl _)) | exact List.nil_sublist _ | exact .cons _ (.refl _) | exact .cons _ (.cons _ (.refl _)) | exact .cons _ (.cons _ (.cons _ (.refl _))) | exact .cons _ (.cons _ (.cons _ (.cons _ (.refl _)))) | exact .cons_cons _ (List.nil_sublist _))⟩, (by omega), ⟨k + 1, rfl, rfl, (by have := (List.getElem?_eq_some_iff.1 hx).1; omega), (show_step hx hne hno)⟩⟩
    ·
      have hne : ¬ x.pl = (vol, blk) := fun e => (show ¬ x.vol = vol by simpa using hg21) (congrArg Prod.fst e)
      refine g_skip rfl rfl hg21 rfl ?_
      refine g_skip rfl rfl hg21 rfl ?_
      refine g_skip rfl rfl hg21 rfl ?_
      refine g_skip rfl rfl hg21 rfl ?_
      refine g_skip rfl rfl hg21 rfl ?_
      refine g_skip rfl rfl hg21 rfl ?_
      refine g_skip rfl rfl hg21 rfl ?_
      refine r_pickF rfl hg21 rfl rfl ?_
      refine awl_nil ?_
      refine x_then ?_
      refine awp_condF rfl ?_
      refine awp_skip ?_
      refine x_block ?_
      refine x_then ?_
      refine awp_region ?_
      refine r_move rfl rfl ?_
      refine r_ari _ rfl rfl rfl (wrap_id (by first | omega | (simp; omega))) rfl ?_
      refine r_assign rfl rfl ?_
      refine awl_nil ?_
      refine x_then ?_
      refine ⟨l.length - (k + 1), ⟨35, [(0, .a (entsA l)), (1, .a (.v (.int .i64 vol))), (2, .a (.v (.int .i64 blk))), (7, .a (.v (.int .i64 (((k + 1) : Int)))))], []⟩, ⟨rfl, (Slots.cons rfl (by first | exact .refl _ | exact .nilOwn _ _ | exact .nilSl _ | exact .ownSl _ _ _  | exact SV.le.of_eq (by simp)) (Slots.cons rfl (by first | exact .refl _ | exact .nilOwn _ _ | exact .nilSl _ | exact .ownSl _ _ _  | exact SV.le.of_eq (by simp)) (Slots.cons rfl (by first | exact .refl _ | exact .nilOwn _ _ | exact .nilSl _ | exact .ownSl _ _ _  | exact SV.le.of_eq (by simp)) (Slots.cons rfl (by first | exact .refl _ | exact .nilOwn _ _ | exact .nilSl _ | exact .ownSl _ _ _  | exact SV.le.of_eq (by simp)) Slots.nil)))), (by first | exact List.Sublist.refl _ | exact .cons_cons _ (.cons _ (.refl _)) | exact List.nil_sublist _ | exact .cons _ (.refl _) | exact .cons _ (.cons _ (.refl _)) | exact .cons _ (.cons _ (.cons _ (.refl _))) | exact .cons _ (.cons _ (.cons _ (.cons _ (.refl _)))) | exact .cons_cons _ (List.nil_sublist _))⟩, (by omega), ⟨k + 1, rfl, rfl, (by have := (List.getElem?_eq_some_iff.1 hx).1; omega), (show_step hx hne hno)⟩⟩
  ·
    have hge : l.length ≤ k := by have := of_decide_eq_false hc0; simp at this; omega
    refine awp_exit ?_
    refine x_thenE ?_
    refine x_thenE ?_
    refine x_blockE ?_
    refine x_then ?_
    refine awp_seq ?_
    refine awp_region ?_
    refine r_assign rfl rfl ?_
    refine awl_nil ?_
    refine x_then ?_
    refine awp_ret ?_
    exact ⟨(.inl rfl), _, [], (.one (by first | exact .mk rfl rfl | exact .nil rfl)), ⟨rfl, by rw [show_end hge hno]; rfl⟩, (List.nil_sublist _), (by simp)⟩

set_option maxHeartbeats 1000000 in
theorem places_ok (l : List Ent) (hl : l.length ≤ 1000) : AC Try.prog 68 [entsA l] [] (fun r n => n = [] ∧ r = plesA (placesF [l])) := by
  refine ac_of_awp (rs := [2]) (nt := 111) Try.func68 rfl rfl rfl rfl (fun w0 C0 hq => ?_)
  refine awp_seq ?_
  refine awp_region ?_
  refine r_assign rfl rfl ?_
  refine awl_nil ?_
  refine x_then ?_
  refine awp_seq ?_
  refine awp_region ?_
  refine r_lit 6 (parts := []) rfl TD.sl22 TD.sz110 TD.zraw110 rfl rfl rfl rfl rfl rfl rfl ?_
  refine r_assign rfl rfl ?_
  refine awl_nil ?_
  refine x_then ?_
  refine awp_seq ?_
  refine awp_seq ?_
  refine awp_region ?_
  refine r_assign rfl rfl ?_
  refine awl_nil ?_
  refine x_then ?_
  refine awp_block ?_
  refine awp_loop (fun nn0 S => ∃ i : Nat, ∃ acc : List PL, S = ⟨111, [(0, .a (entsA l)), (3, .a (plesA acc)), (4, .a (.v (.int .i64 ((i : Int)))))], []⟩ ∧ nn0 = l.length - i ∧ (i ≤ l.length) ∧ (acc = insAll [] (l.take i)) ∧ (acc.length ≤ i)) (l.length - (0)) ⟨111, [(0, .a (entsA l)), (3, .a (plesA ([]))), (4, .a (.v (.int .i64 (((0) : Int)))))], []⟩ ⟨rfl, (Slots.cons rfl (by first | exact .refl _ | exact .nilOwn _ _ | exact .nilSl _ | exact .ownSl _ _ _  | exact SV.le.of_eq (by simp)) (Slots.cons rfl (by first | exact .refl _ | exact .nilOwn _ _ | exact .nilSl _ | exact .ownSl _ _ _  | exact SV.le.of_eq (by simp)) (Slots.cons rfl (by first | exact .refl _ | exact .nilOwn _ _ | exact .nilSl _ | exact .ownSl _ _ _  | exact SV.le.of_eq (by simp)) Slots.nil))), (by first | exact List.Sublist.refl _ | exact .cons_cons _ (.cons _ (.refl _)) | exact List.nil_sublist _ | exact .cons _ (.refl _) | exact .cons _ (.cons _ (.refl _)) | exact .cons _ (.cons _ (.cons _ (.refl _))) | exact .cons _ (.cons _ (.cons _ (.cons _ (.refl _)))) | exact .cons_cons _ (List.nil_sublist _))⟩ ⟨0, [], rfl, rfl, Nat.zero_le _, rfl, (by simp)⟩ ?_
  rintro nn0 _ ⟨i, acc, rfl, rfl, hi, hacc, hal⟩
  refine awp_seq ?_
  refine awp_seq ?_
  refine awp_region ?_
  refine r_move rfl rfl ?_
  refine r_move rfl rfl ?_
  first | (refine r_lenS rfl rfl TD.sl22 rfl ?_) | (refine r_lenNil rfl TD.sl22 rfl ?_)
  refine r_cmp rfl rfl rfl rfl ?_
  refine awl_nil ?_
  refine x_then ?_
  refine awp_cond rfl (fun hc0 => ?_) (fun hc0 => ?_)
  ·
    have hltx : i < l.length := by have := of_decide_eq_true hc0; simpa using this
    obtain ⟨x, hx⟩ := get_lt hltx
    refine awp_skip ?_
    refine x_then ?_
    refine awp_seq ?_
    refine awp_block ?_
    refine awp_seq ?_
    refine awp_region ?_
    refine r_assign rfl rfl ?_
    refine awl_nil ?_
    refine x_then ?_
    refine awp_cut (fun S => ∃ j : Nat, S = ⟨111, [(0, .a (entsA l)), (3, .a (plesA acc)), (4, .a (.v (.int .i64 ((i : Int))))), (5, .a (.v (.int .i64 ((j : Int)))))], []⟩ ∧ (j ≤ acc.length) ∧ ((acc.take j).all (ltP · x.pl) = true) ∧ (∀ y, acc[j]? = some y → ltP y x.pl = false)) ?_ ?_
    ·
      refine awp_block ?_
      refine awp_loop (fun nn0 S => ∃ j : Nat, S = ⟨111, [(0, .a (entsA l)), (3, .a (plesA acc)), (4, .a (.v (.int .i64 ((i : Int))))), (5, .a (.v (.int .i64 ((j : Int)))))], []⟩ ∧ nn0 = acc.length - j ∧ (j ≤ acc.length) ∧ ((acc.take j).all (ltP · x.pl) = true)) (acc.length - (0)) ⟨111, [(0, .a (entsA l)), (3, .a (plesA acc)), (4, .a (.v (.int .i64 ((i : Int))))), (5, .a (.v (.int .i64 (((0) : Int)))))], []⟩ ⟨rfl, (Slots.cons rfl (by first | exact .refl _ | exact .nilOwn _ _ | exact .nilSl _ | exact .ownSl _ _ _  | exact SV.le.of_eq (by simp)) (Slots.cons rfl (by first | exact .refl _ | exact .nilOwn _ _ | exact .nilSl _ | exact .ownSl _ _ _  | exact SV.le.of_eq (by simp)) (Slots.cons rfl (by first | exact .refl _ | exact .nilOwn _ _ | exact .nilSl _ | exact .ownSl _ _ _  | exact SV.le.of_eq (by simp)) (Slots.cons rfl (by first | exact .refl _ | exact .nilOwn _ _ | exact .nilSl _ | exact .ownSl _ _ _  | exact SV.le.of_eq (by simp)) Slots.nil)))), (by first | exact List.Sublist.refl _ | exact .cons_cons _ (.cons _ (.refl _)) | exact List.nil_sublist _ | exact .cons _ (.refl _) | exact .cons _ (.cons _ (.refl _)) | exact .cons _ (.cons _ (.cons _ (.refl _))) | exact .cons _ (.cons _ (.cons _ (.cons _ (.refl _)))) | exact .cons_cons _ (List.nil_sublist _))⟩ ⟨0, rfl, rfl, Nat.zero_le _, rfl⟩ ?_
      rintro nn0 _ ⟨j, rfl, rfl, hj, ha⟩
      refine awp_seq ?_
      refine awp_seq ?_
      rcases Bool.eq_false_or_eq_true (decide ((j : Int) < (acc.map PE).length)) with hg17 | hg17
      ·
        have hlty : j < acc.length := by have := of_decide_eq_true hg17; simpa using this
        obtain ⟨y, hy⟩ := get_lt hlty
        rcases Bool.eq_false_or_eq_true (decide (y.1 < x.vol)) with hg29 | hg29
        ·
          have hlt : ltP y x.pl = true := ltP_iff.2 (.inl (of_decide_eq_true hg29))
          refine awp_drawS [13, 14, 15, 16, 17, 18, 19, 20, 21, 22, 23, 24, 25, 26, 27, 28, 29, 30, 31, 32, 33, 34, 35, 36, 37, 38, 39, 40, 41, 42, 43, 44, 45, 46, 47, 48, 49, 50, 51] [_, _, _, _, _, _, _, _, _, _, _, _, _, _, _, _, _, _, _, _, _, _, _, _, _, _, _, _, _, _, _, _, _, _, _, _, _, _, _] [] [] TD.mixed rfl rfl rfl ⟨⟨⟨⟨⟨⟨⟨⟨⟨⟨⟨⟨⟨⟨⟨⟨⟨⟨⟨⟨⟨⟨⟨⟨⟨⟨⟨⟨⟨⟨⟨⟨⟨⟨⟨⟨⟨⟨⟨trivial
            , ⟨_, rfl, fun sl hd hr ho => by
                refine r_move (hr 5 _ rfl rfl rfl) rfl ?_
                exact awl_nil ⟨rfl, post_put⟩⟩⟩
            , ⟨_, rfl, fun sl hd hr ho => by
                refine r_move (hr 3 _ rfl rfl rfl) rfl ?_
                exact awl_nil ⟨rfl, post_put⟩⟩⟩
            , ⟨_, rfl, fun sl hd hr ho => by
                first | (refine r_lenS (hd 1 _ rfl rfl rfl) rfl TD.sl22 rfl ?_) | (refine r_lenNil (hd 1 _ rfl rfl rfl) TD.sl22 rfl ?_)
                exact awl_nil ⟨rfl, post_put⟩⟩⟩
            , ⟨_, rfl, fun sl hd hr ho => by
                refine r_cmp (hd 0 _ rfl rfl rfl) (hd 2 _ rfl rfl rfl) rfl rfl ?_
                exact awl_nil ⟨rfl, post_put⟩⟩⟩
            , ⟨_, rfl, fun sl hd hr ho => by
                refine r_move (hd 3 _ rfl rfl rfl) rfl ?_
                exact awl_nil ⟨rfl, post_put⟩⟩⟩
            , ⟨_, rfl, fun sl hd hr ho => by
                refine g_run rfl (hd 4 _ rfl rfl rfl) hg17 ?_
                refine r_move (hr 3 _ rfl rfl rfl) rfl ?_
                exact awl_nil ⟨rfl, post_put⟩⟩⟩
            , ⟨_, rfl, fun sl hd hr ho => by
                refine g_run rfl (hd 4 _ rfl rfl rfl) hg17 ?_
                refine r_move (hr 5 _ rfl rfl rfl) rfl ?_
                exact awl_nil ⟨rfl, post_put⟩⟩⟩
            , ⟨_, rfl, fun sl hd hr ho => by
                refine g_run rfl (hd 4 _ rfl rfl rfl) hg17 ?_
                refine r_index (hd 5 _ rfl rfl rfl) rfl (hd 6 _ rfl rfl rfl) TD.sl22 TD.sz110 (by omega) (get_map hy) rfl ?_
                exact awl_nil ⟨rfl, post_put⟩⟩⟩
            , ⟨_, rfl, fun sl hd hr ho => by
                refine g_run rfl (hd 4 _ rfl rfl rfl) hg17 ?_
                first | (refine r_fieldcp (hd 7 _ rfl rfl rfl) TD.f110_0 TD.sz3 rfl ?_) | (refine r_fieldb (hd 7 _ rfl rfl rfl) TD.f110_0 TD.sz3 rfl ?_)
                exact awl_nil ⟨rfl, post_put⟩⟩⟩
            , ⟨_, rfl, fun sl hd hr ho => by
                refine g_run rfl (hd 4 _ rfl rfl rfl) hg17 ?_
                refine r_load1 (hd 8 _ rfl rfl rfl) TD.agg3 rfl ?_
                exact awl_nil ⟨rfl, post_put⟩⟩⟩
            , ⟨_, rfl, fun sl hd hr ho => by
                refine g_run rfl (hd 4 _ rfl rfl rfl) hg17 ?_
                refine r_move (hr 0 _ rfl rfl rfl) rfl ?_
                exact awl_nil ⟨rfl, post_put⟩⟩⟩
            , ⟨_, rfl, fun sl hd hr ho => by
                refine g_run rfl (hd 4 _ rfl rfl rfl) hg17 ?_
                refine r_move (hr 4 _ rfl rfl rfl) rfl ?_
                exact awl_nil ⟨rfl, post_put⟩⟩⟩
            , ⟨_, rfl, fun sl hd hr ho => by
                refine g_run rfl (hd 4 _ rfl rfl rfl) hg17 ?_
                refine r_index (hd 10 _ rfl rfl rfl) rfl (hd 11 _ rfl rfl rfl) TD.sl22 TD.sz110 (by omega) (get_map hx) rfl ?_
                exact awl_nil ⟨rfl, post_put⟩⟩⟩
            , ⟨_, rfl, fun sl hd hr ho => by
                refine g_run rfl (hd 4 _ rfl rfl rfl) hg17 ?_
                first | (refine r_fieldcp (hd 12 _ rfl rfl rfl) TD.f110_0 TD.sz3 rfl ?_) | (refine r_fieldb (hd 12 _ rfl rfl rfl) TD.f110_0 TD.sz3 rfl ?_)
                exact awl_nil ⟨rfl, post_put⟩⟩⟩
            , ⟨_, rfl, fun sl hd hr ho => by
                refine g_run rfl (hd 4 _ rfl rfl rfl) hg17 ?_
                refine r_load1 (hd 13 _ rfl rfl rfl) TD.agg3 rfl ?_
                exact awl_nil ⟨rfl, post_put⟩⟩⟩
            , ⟨_, rfl, fun sl hd hr ho => by
                refine g_run rfl (hd 4 _ rfl rfl rfl) hg17 ?_
                refine r_cmp (hd 9 _ rfl rfl rfl) (hd 14 _ rfl rfl rfl) rfl rfl ?_
                exact awl_nil ⟨rfl, post_put⟩⟩⟩
            , ⟨_, rfl, fun sl hd hr ho => by
                refine g_run rfl (hd 4 _ rfl rfl rfl) hg17 ?_
                refine r_move (hd 15 _ rfl rfl rfl) rfl ?_
                exact awl_nil ⟨rfl, post_put⟩⟩⟩
            , ⟨_, rfl, fun sl hd hr ho => by
                refine g_skip rfl (hd 16 _ rfl rfl rfl) hg29 rfl ?_
                exact awl_nil ⟨rfl, post_put⟩⟩⟩
            , ⟨_, rfl, fun sl hd hr ho => by
                refine g_skip rfl (hd 16 _ rfl rfl rfl) hg29 rfl ?_
                exact awl_nil ⟨rfl, post_put⟩⟩⟩
            , ⟨_, rfl, fun sl hd hr ho => by
                refine g_skip rfl (hd 16 _ rfl rfl rfl) hg29 rfl ?_
                exact awl_nil ⟨rfl, post_put⟩⟩⟩
            , ⟨_, rfl, fun sl hd hr ho => by
                refine g_skip rfl (hd 16 _ rfl rfl rfl) hg29 rfl ?_
                exact awl_nil ⟨rfl, post_put⟩⟩⟩
            , ⟨_, rfl, fun sl hd hr ho => by
                refine g_skip rfl (hd 16 _ rfl rfl rfl) hg29 rfl ?_
                exact awl_nil ⟨rfl, post_put⟩⟩⟩
            , ⟨_, rfl, fun sl hd hr ho => by
                refine g_skip rfl (hd 16 _ rfl rfl rfl) hg29 rfl ?_
                exact awl_nil ⟨rfl, post_put⟩⟩⟩
            , ⟨_, rfl, fun sl hd hr ho => by
                refine g_skip rfl (hd 16 _ rfl rfl rfl) hg29 rfl ?_
                exact awl_nil ⟨rfl, post_put⟩⟩⟩
            , ⟨_, rfl, fun sl hd hr ho => by
                refine g_skip rfl (hd 16 _ rfl rfl rfl) hg29 rfl ?_
                exact awl_nil ⟨rfl, post_put⟩⟩⟩
            , ⟨_, rfl, fun sl hd hr ho => by
                refine g_skip rfl (hd 16 _ rfl rfl rfl) hg29 rfl ?_
                exact awl_nil ⟨rfl, post_put⟩⟩⟩
            , ⟨_, rfl, fun sl hd hr ho => by
                refine g_skip rfl (hd 16 _ rfl rfl rfl) hg29 rfl ?_
                exact awl_nil ⟨rfl, post_put⟩⟩⟩
            , ⟨_, rfl, fun sl hd hr ho => by
                refine g_skip rfl (hd 16 _ rfl rfl rfl) hg29 rfl ?_
                exact awl_nil ⟨rfl, post_put⟩⟩⟩
            , ⟨_, rfl, fun sl hd hr ho => by
                refine g_skip rfl (hd 16 _ rfl rfl rfl) hg29 rfl ?_
                exact awl_nil ⟨rfl, post_put⟩⟩⟩
            , ⟨_, rfl, fun sl hd hr ho => by
                refine g_skipU rfl (hd 28 _ rfl rfl rfl) rfl ?_
                exact awl_nil ⟨rfl, post_put⟩⟩⟩
            , ⟨_, rfl, fun sl hd hr ho => by
                refine g_skipU rfl (hd 28 _ rfl rfl rfl) rfl ?_
                exact awl_nil ⟨rfl, post_put⟩⟩⟩
            , ⟨_, rfl, fun sl hd hr ho => by
                refine g_skipU rfl (hd 28 _ rfl rfl rfl) rfl ?_
                exact awl_nil ⟨rfl, post_put⟩⟩⟩
            , ⟨_, rfl, fun sl hd hr ho => by
                refine g_skipU rfl (hd 28 _ rfl rfl rfl) rfl ?_
                exact awl_nil ⟨rfl, post_put⟩⟩⟩
            , ⟨_, rfl, fun sl hd hr ho => by
                refine g_skipU rfl (hd 28 _ rfl rfl rfl) rfl ?_
                exact awl_nil ⟨rfl, post_put⟩⟩⟩
            , ⟨_, rfl, fun sl hd hr ho => by
                refine g_skipU rfl (hd 28 _ rfl rfl rfl) rfl ?_
                exact awl_nil ⟨rfl, post_put⟩⟩⟩
            , ⟨_, rfl, fun sl hd hr ho => by
                refine g_skipU rfl (hd 28 _ rfl rfl rfl) rfl ?_
                exact awl_nil ⟨rfl, post_put⟩⟩⟩
            , ⟨_, rfl, fun sl hd hr ho => by
                refine g_skipU rfl (hd 28 _ rfl rfl rfl) rfl ?_
                exact awl_nil ⟨rfl, post_put⟩⟩⟩
            , ⟨_, rfl, fun sl hd hr ho => by
                refine g_skipU rfl (hd 28 _ rfl rfl rfl) rfl ?_
                exact awl_nil ⟨rfl, post_put⟩⟩⟩
            , ⟨_, rfl, fun sl hd hr ho => by
                refine g_skipU rfl (hd 28 _ rfl rfl rfl) rfl ?_
                exact awl_nil ⟨rfl, post_put⟩⟩⟩
            (by rfl) ?_
          refine g_skipU rfl rfl rfl ?_
          refine g_skip rfl rfl hg29 rfl ?_
          refine g_run rfl rfl hg17 ?_
          refine r_pickT rfl hg29 rfl rfl ?_
          refine r_pickT rfl hg17 rfl rfl ?_
          refine awl_nil ?_
          refine x_then ?_
          refine awp_condT rfl ?_
          refine awp_skip ?_
          refine x_then ?_
          refine awp_block ?_
          refine awp_region ?_
          refine r_move rfl rfl ?_
          refine r_ari _ rfl rfl rfl (wrap_id (by first | omega | (simp; omega))) rfl ?_
          refine r_assign rfl rfl ?_
          refine awl_nil ?_
          refine x_block ?_
          refine x_then ?_
          refine ⟨acc.length - (j + 1), ⟨111, [(0, .a (entsA l)), (3, .a (plesA acc)), (4, .a (.v (.int .i64 ((i : Int))))), (5, .a (.v (.int .i64 (((j + 1) : Int)))))], []⟩, ⟨rfl, (Slots.cons rfl (by first | exact .refl _ | exact .nilOwn _ _ | exact .nilSl _ | exact .ownSl _ _ _  | exact SV.le.of_eq (by simp)) (Slots.cons rfl (by first | exact .refl _ | exact .nilOwn _ _ | exact .nilSl _ | exact .ownSl _ _ _  | exact SV.le.of_eq (by simp)) (Slots.cons rfl (by first | exact .refl _ | exact .nilOwn _ _ | exact .nilSl _ | exact .ownSl _ _ _  | exact SV.le.of_eq (by simp)) (Slots.cons rfl (by first | exact .refl _ | exact .nilOwn _ _ | exact .nilSl _ | exact .ownSl _ _ _  | exact SV.le.of_eq (by simp)) Slots.nil)))), (by first | exact List.Sublist.refl _ | exact .cons_cons _ (.cons _ (.refl _)) | exact List.nil_sublist _ | exact .cons _ (.refl _) | exact .cons _ (.cons _ (.refl _)) | exact .cons _ (.cons _ (.cons _ (.refl _))) | exact .cons _ (.cons _ (.cons _ (.cons _ (.refl _)))) | exact .cons_cons _ (List.nil_sublist _))⟩, (by omega), ⟨j + 1, rfl, rfl, (by have := (List.getElem?_eq_some_iff.1 hy).1; omega), (all_takeB hy ha hlt)⟩⟩
        ·
          have h1 := of_decide_eq_false hg29
          rcases Bool.eq_false_or_eq_true (y.1 == x.vol) with hg41 | hg41
          ·
            have h2 : y.1 = x.vol := eq_of_beq hg41
            refine awp_drawS [13, 14, 15, 16, 17, 18, 19, 20, 21, 22, 23, 24, 25, 26, 27, 28, 29, 30, 31, 32, 33, 34, 35, 36, 37, 38, 39, 40, 41, 42, 43, 44, 45, 46, 47, 48, 49, 50, 51] [_, _, _, _, _, _, _, _, _, _, _, _, _, _, _, _, _, _, _, _, _, _, _, _, _, _, _, _, _, _, _, _, _, _, _, _, _, _, _] [] [] TD.mixed rfl rfl rfl ⟨⟨⟨⟨⟨⟨⟨⟨⟨⟨⟨⟨⟨⟨⟨⟨⟨⟨⟨⟨⟨⟨⟨⟨⟨⟨⟨⟨⟨⟨⟨⟨⟨⟨⟨⟨⟨⟨⟨trivial
              , ⟨_, rfl, fun sl hd hr ho => by
                  refine r_move (hr 5 _ rfl rfl rfl) rfl ?_
                  exact awl_nil ⟨rfl, post_put⟩⟩⟩
              , ⟨_, rfl, fun sl hd hr ho => by
                  refine r_move (hr 3 _ rfl rfl rfl) rfl ?_
                  exact awl_nil ⟨rfl, post_put⟩⟩⟩
              , ⟨_, rfl, fun sl hd hr ho => by
                  first | (refine r_lenS (hd 1 _ rfl rfl rfl) rfl TD.sl22 rfl ?_) | (refine r_lenNil (hd 1 _ rfl rfl rfl) TD.sl22 rfl ?_)
                  exact awl_nil ⟨rfl, post_put⟩⟩⟩
              , ⟨_, rfl, fun sl hd hr ho => by
                  refine r_cmp (hd 0 _ rfl rfl rfl) (hd 2 _ rfl rfl rfl) rfl rfl ?_
                  exact awl_nil ⟨rfl, post_put⟩⟩⟩
              , ⟨_, rfl, fun sl hd hr ho => by
                  refine r_move (hd 3 _ rfl rfl rfl) rfl ?_
                  exact awl_nil ⟨rfl, post_put⟩⟩⟩
              , ⟨_, rfl, fun sl hd hr ho => by
                  refine g_run rfl (hd 4 _ rfl rfl rfl) hg17 ?_
                  refine r_move (hr 3 _ rfl rfl rfl) rfl ?_
                  exact awl_nil ⟨rfl, post_put⟩⟩⟩
              , ⟨_, rfl, fun sl hd hr ho => by
                  refine g_run rfl (hd 4 _ rfl rfl rfl) hg17 ?_
                  refine r_move (hr 5 _ rfl rfl rfl) rfl ?_
                  exact awl_nil ⟨rfl, post_put⟩⟩⟩
              , ⟨_, rfl, fun sl hd hr ho => by
                  refine g_run rfl (hd 4 _ rfl rfl rfl) hg17 ?_
                  refine r_index (hd 5 _ rfl rfl rfl) rfl (hd 6 _ rfl rfl rfl) TD.sl22 TD.sz110 (by omega) (get_map hy) rfl ?_
                  exact awl_nil ⟨rfl, post_put⟩⟩⟩
              , ⟨_, rfl, fun sl hd hr ho => by
                  refine g_run rfl (hd 4 _ rfl rfl rfl) hg17 ?_
                  first | (refine r_fieldcp (hd 7 _ rfl rfl rfl) TD.f110_0 TD.sz3 rfl ?_) | (refine r_fieldb (hd 7 _ rfl rfl rfl) TD.f110_0 TD.sz3 rfl ?_)
                  exact awl_nil ⟨rfl, post_put⟩⟩⟩
              , ⟨_, rfl, fun sl hd hr ho => by
                  refine g_run rfl (hd 4 _ rfl rfl rfl) hg17 ?_
                  refine r_load1 (hd 8 _ rfl rfl rfl) TD.agg3 rfl ?_
                  exact awl_nil ⟨rfl, post_put⟩⟩⟩
              , ⟨_, rfl, fun sl hd hr ho => by
                  refine g_run rfl (hd 4 _ rfl rfl rfl) hg17 ?_
                  refine r_move (hr 0 _ rfl rfl rfl) rfl ?_
                  exact awl_nil ⟨rfl, post_put⟩⟩⟩
              , ⟨_, rfl, fun sl hd hr ho => by
                  refine g_run rfl (hd 4 _ rfl rfl rfl) hg17 ?_
                  refine r_move (hr 4 _ rfl rfl rfl) rfl ?_
                  exact awl_nil ⟨rfl, post_put⟩⟩⟩
              , ⟨_, rfl, fun sl hd hr ho => by
                  refine g_run rfl (hd 4 _ rfl rfl rfl) hg17 ?_
                  refine r_index (hd 10 _ rfl rfl rfl) rfl (hd 11 _ rfl rfl rfl) TD.sl22 TD.sz110 (by omega) (get_map hx) rfl ?_
                  exact awl_nil ⟨rfl, post_put⟩⟩⟩
              , ⟨_, rfl, fun sl hd hr ho => by
                  refine g_run rfl (hd 4 _ rfl rfl rfl) hg17 ?_
                  first | (refine r_fieldcp (hd 12 _ rfl rfl rfl) TD.f110_0 TD.sz3 rfl ?_) | (refine r_fieldb (hd 12 _ rfl rfl rfl) TD.f110_0 TD.sz3 rfl ?_)
                  exact awl_nil ⟨rfl, post_put⟩⟩⟩
              , ⟨_, rfl, fun sl hd hr ho => by
                  refine g_run rfl (hd 4 _ rfl rfl rfl) hg17 ?_
                  refine r_load1 (hd 13 _ rfl rfl rfl) TD.agg3 rfl ?_
                  exact awl_nil ⟨rfl, post_put⟩⟩⟩
              , ⟨_, rfl, fun sl hd hr ho => by
                  refine g_run rfl (hd 4 _ rfl rfl rfl) hg17 ?_
                  refine r_cmp (hd 9 _ rfl rfl rfl) (hd 14 _ rfl rfl rfl) rfl rfl ?_
                  exact awl_nil ⟨rfl, post_put⟩⟩⟩
              , ⟨_, rfl, fun sl hd hr ho => by
                  refine g_run rfl (hd 4 _ rfl rfl rfl) hg17 ?_
                  refine r_move (hd 15 _ rfl rfl rfl) rfl ?_
                  exact awl_nil ⟨rfl, post_put⟩⟩⟩
              , ⟨_, rfl, fun sl hd hr ho => by
                  refine g_run rfl (hd 16 _ rfl rfl rfl) hg29 ?_
                  refine r_move (hr 3 _ rfl rfl rfl) rfl ?_
                  exact awl_nil ⟨rfl, post_put⟩⟩⟩
              , ⟨_, rfl, fun sl hd hr ho => by
                  refine g_run rfl (hd 16 _ rfl rfl rfl) hg29 ?_
                  refine r_move (hr 5 _ rfl rfl rfl) rfl ?_
                  exact awl_nil ⟨rfl, post_put⟩⟩⟩
              , ⟨_, rfl, fun sl hd hr ho => by
                  refine g_run rfl (hd 16 _ rfl rfl rfl) hg29 ?_
                  refine r_index (hd 17 _ rfl rfl rfl) rfl (hd 18 _ rfl rfl rfl) TD.sl22 TD.sz110 (by omega) (get_map hy) rfl ?_
                  exact awl_nil ⟨rfl, post_put⟩⟩⟩
              , ⟨_, rfl, fun sl hd hr ho => by
                  refine g_run rfl (hd 16 _ rfl rfl rfl) hg29 ?_
                  first | (refine r_fieldcp (hd 19 _ rfl rfl rfl) TD.f110_0 TD.sz3 rfl ?_) | (refine r_fieldb (hd 19 _ rfl rfl rfl) TD.f110_0 TD.sz3 rfl ?_)
                  exact awl_nil ⟨rfl, post_put⟩⟩⟩
              , ⟨_, rfl, fun sl hd hr ho => by
                  refine g_run rfl (hd 16 _ rfl rfl rfl) hg29 ?_
                  refine r_load1 (hd 20 _ rfl rfl rfl) TD.agg3 rfl ?_
                  exact awl_nil ⟨rfl, post_put⟩⟩⟩
              , ⟨_, rfl, fun sl hd hr ho => by
                  refine g_run rfl (hd 16 _ rfl rfl rfl) hg29 ?_
                  refine r_move (hr 0 _ rfl rfl rfl) rfl ?_
                  exact awl_nil ⟨rfl, post_put⟩⟩⟩
              , ⟨_, rfl, fun sl hd hr ho => by
                  refine g_run rfl (hd 16 _ rfl rfl rfl) hg29 ?_
                  refine r_move (hr 4 _ rfl rfl rfl) rfl ?_
                  exact awl_nil ⟨rfl, post_put⟩⟩⟩
              , ⟨_, rfl, fun sl hd hr ho => by
                  refine g_run rfl (hd 16 _ rfl rfl rfl) hg29 ?_
                  refine r_index (hd 22 _ rfl rfl rfl) rfl (hd 23 _ rfl rfl rfl) TD.sl22 TD.sz110 (by omega) (get_map hx) rfl ?_
                  exact awl_nil ⟨rfl, post_put⟩⟩⟩
              , ⟨_, rfl, fun sl hd hr ho => by
                  refine g_run rfl (hd 16 _ rfl rfl rfl) hg29 ?_
                  first | (refine r_fieldcp (hd 24 _ rfl rfl rfl) TD.f110_0 TD.sz3 rfl ?_) | (refine r_fieldb (hd 24 _ rfl rfl rfl) TD.f110_0 TD.sz3 rfl ?_)
                  exact awl_nil ⟨rfl, post_put⟩⟩⟩
              , ⟨_, rfl, fun sl hd hr ho => by
                  refine g_run rfl (hd 16 _ rfl rfl rfl) hg29 ?_
                  refine r_load1 (hd 25 _ rfl rfl rfl) TD.agg3 rfl ?_
                  exact awl_nil ⟨rfl, post_put⟩⟩⟩
              , ⟨_, rfl, fun sl hd hr ho => by
                  refine g_run rfl (hd 16 _ rfl rfl rfl) hg29 ?_
                  refine r_cmp (hd 21 _ rfl rfl rfl) (hd 26 _ rfl rfl rfl) rfl rfl ?_
                  exact awl_nil ⟨rfl, post_put⟩⟩⟩
              , ⟨_, rfl, fun sl hd hr ho => by
                  refine g_run rfl (hd 16 _ rfl rfl rfl) hg29 ?_
                  refine r_move (hd 27 _ rfl rfl rfl) rfl ?_
                  exact awl_nil ⟨rfl, post_put⟩⟩⟩
              , ⟨_, rfl, fun sl hd hr ho => by
                  refine g_run rfl (hd 28 _ rfl rfl rfl) hg41 ?_
                  refine r_move (hr 3 _ rfl rfl rfl) rfl ?_
                  exact awl_nil ⟨rfl, post_put⟩⟩⟩
              , ⟨_, rfl, fun sl hd hr ho => by
                  refine g_run rfl (hd 28 _ rfl rfl rfl) hg41 ?_
                  refine r_move (hr 5 _ rfl rfl rfl) rfl ?_
                  exact awl_nil ⟨rfl, post_put⟩⟩⟩
              , ⟨_, rfl, fun sl hd hr ho => by
                  refine g_run rfl (hd 28 _ rfl rfl rfl) hg41 ?_
                  refine r_index (hd 29 _ rfl rfl rfl) rfl (hd 30 _ rfl rfl rfl) TD.sl22 TD.sz110 (by omega) (get_map hy) rfl ?_
                  exact awl_nil ⟨rfl, post_put⟩⟩⟩
              , ⟨_, rfl, fun sl hd hr ho => by
                  refine g_run rfl (hd 28 _ rfl rfl rfl) hg41 ?_
                  first | (refine r_fieldcp (hd 31 _ rfl rfl rfl) TD.f110_1 TD.sz3 rfl ?_) | (refine r_fieldb (hd 31 _ rfl rfl rfl) TD.f110_1 TD.sz3 rfl ?_)
                  exact awl_nil ⟨rfl, post_put⟩⟩⟩
              , ⟨_, rfl, fun sl hd hr ho => by
                  refine g_run rfl (hd 28 _ rfl rfl rfl) hg41 ?_
                  refine r_load1 (hd 32 _ rfl rfl rfl) TD.agg3 rfl ?_
                  exact awl_nil ⟨rfl, post_put⟩⟩⟩
              , ⟨_, rfl, fun sl hd hr ho => by
                  refine g_run rfl (hd 28 _ rfl rfl rfl) hg41 ?_
                  refine r_move (hr 0 _ rfl rfl rfl) rfl ?_
                  exact awl_nil ⟨rfl, post_put⟩⟩⟩
              , ⟨_, rfl, fun sl hd hr ho => by
                  refine g_run rfl (hd 28 _ rfl rfl rfl) hg41 ?_
                  refine r_move (hr 4 _ rfl rfl rfl) rfl ?_
                  exact awl_nil ⟨rfl, post_put⟩⟩⟩
              , ⟨_, rfl, fun sl hd hr ho => by
                  refine g_run rfl (hd 28 _ rfl rfl rfl) hg41 ?_
                  refine r_index (hd 34 _ rfl rfl rfl) rfl (hd 35 _ rfl rfl rfl) TD.sl22 TD.sz110 (by omega) (get_map hx) rfl ?_
                  exact awl_nil ⟨rfl, post_put⟩⟩⟩
              , ⟨_, rfl, fun sl hd hr ho => by
                  refine g_run rfl (hd 28 _ rfl rfl rfl) hg41 ?_
                  first | (refine r_fieldcp (hd 36 _ rfl rfl rfl) TD.f110_1 TD.sz3 rfl ?_) | (refine r_fieldb (hd 36 _ rfl rfl rfl) TD.f110_1 TD.sz3 rfl ?_)
                  exact awl_nil ⟨rfl, post_put⟩⟩⟩
              , ⟨_, rfl, fun sl hd hr ho => by
                  refine g_run rfl (hd 28 _ rfl rfl rfl) hg41 ?_
                  refine r_load1 (hd 37 _ rfl rfl rfl) TD.agg3 rfl ?_
                  exact awl_nil ⟨rfl, post_put⟩⟩⟩
              (by rfl) ?_
            refine g_run rfl rfl hg41 ?_
            refine r_cmp rfl rfl rfl rfl ?_
            refine g_run rfl rfl hg29 ?_
            refine r_pickT rfl hg41 rfl rfl ?_
            refine g_run rfl rfl hg17 ?_
            refine r_pickF rfl hg29 rfl rfl ?_
            refine r_pickT rfl hg17 rfl rfl ?_
            refine awl_nil ?_
            refine x_then ?_
            refine awp_cond rfl (fun hc1 => ?_) (fun hc1 => ?_)
            ·
              have hlt : ltP y x.pl = true := ltP_iff.2 (.inr ⟨h2, of_decide_eq_true hc1⟩)
              refine awp_skip ?_
              refine x_then ?_
              refine awp_block ?_
              refine awp_region ?_
              refine r_move rfl rfl ?_
              refine r_ari _ rfl rfl rfl (wrap_id (by first | omega | (simp; omega))) rfl ?_
              refine r_assign rfl rfl ?_
              refine awl_nil ?_
              refine x_block ?_
              refine x_then ?_
              refine ⟨acc.length - (j + 1), ⟨111, [(0, .a (entsA l)), (3, .a (plesA acc)), (4, .a (.v (.int .i64 ((i : Int))))), (5, .a (.v (.int .i64 (((j + 1) : Int)))))], []⟩, ⟨rfl, (Slots.cons rfl (by first | exact .refl _ | exact .nilOwn _ _ | exact .nilSl _ | exact .ownSl _ _ _  | exact SV.le.of_eq (by simp)) (Slots.cons rfl (by first | exact .refl _ | exact .nilOwn _ _ | exact .nilSl _ | exact .ownSl _ _ _  | exact SV.le.of_eq (by simp)) (Slots.cons rfl (by first | exact .refl _ | exact .nilOwn _ _ | exact .nilSl _ | exact .ownSl _ _ _  | exact SV.le.of_eq (by simp)) (Slots.cons rfl (by first | exact .refl _ | exact .nilOwn _ _ | exact .nilSl _ | exact .ownSl _ _ _  | exact SV.le.of_eq (by simp)) Slots.nil)))), (by first | exact List.Sublist.refl _ | exact .cons_cons _ (.cons _ (.refl _)) | exact List.nil_sublist _ | exact .cons _ (.refl _) | exact .cons _ (.cons _ (.refl _)) | exact .cons _ (.cons _ (.cons _ (.refl _))) | exact .cons _ (.cons _ (.cons _ (.cons _ (.refl _)))) | exact .cons_cons _ (List.nil_sublist _))⟩, (by omega), ⟨j + 1, rfl, rfl, (by have := (List.getElem?_eq_some_iff.1 hy).1; omega), (all_takeB hy ha hlt)⟩⟩
            ·
              have h3 := of_decide_eq_false hc1
              have hnl : ltP y x.pl = false := by cases h : ltP y x.pl with
                | false => rfl
                | true => exact ((ltP_iff.1 h).elim (fun h => absurd h h1) (fun h => absurd h.2 h3))
              refine awp_exit ?_
              refine x_thenE ?_
              refine x_thenE ?_
              refine x_blockE ?_
              refine x_then ?_
              refine ⟨⟨111, [(0, .a (entsA l)), (3, .a (plesA acc)), (4, .a (.v (.int .i64 ((i : Int))))), (5, .a (.v (.int .i64 (((j) : Int)))))], []⟩, ⟨rfl, (Slots.cons rfl (by first | exact .refl _ | exact .nilOwn _ _ | exact .nilSl _ | exact .ownSl _ _ _  | exact SV.le.of_eq (by simp)) (Slots.cons rfl (by first | exact .refl _ | exact .nilOwn _ _ | exact .nilSl _ | exact .ownSl _ _ _  | exact SV.le.of_eq (by simp)) (Slots.cons rfl (by first | exact .refl _ | exact .nilOwn _ _ | exact .nilSl _ | exact .ownSl _ _ _  | exact SV.le.of_eq (by simp)) (Slots.cons rfl (by first | exact .refl _ | exact .nilOwn _ _ | exact .nilSl _ | exact .ownSl _ _ _  | exact SV.le.of_eq (by simp)) Slots.nil)))), (by first | exact List.Sublist.refl _ | exact .cons_cons _ (.cons _ (.refl _)) | exact List.nil_sublist _ | exact .cons _ (.refl _) | exact .cons _ (.cons _ (.refl _)) | exact .cons _ (.cons _ (.cons _ (.refl _))) | exact .cons _ (.cons _ (.cons _ (.cons _ (.refl _)))) | exact .cons_cons _ (List.nil_sublist _))⟩, ⟨j, rfl, hj, ha, (fun z hz => by first | (rw [hy] at hz; cases hz; exact hnl) | (have := (List.getElem?_eq_some_iff.1 hz).1; omega))⟩⟩
          ·
            have h2 : ¬ y.1 = x.vol := by simpa using hg41
            have hnl : ltP y x.pl = false := by cases h : ltP y x.pl with
              | false => rfl
              | true => exact ((ltP_iff.1 h).elim (fun h => absurd h h1) (fun h => absurd h.1 h2))
            refine awp_drawS [13, 14, 15, 16, 17, 18, 19, 20, 21, 22, 23, 24, 25, 26, 27, 28, 29, 30, 31, 32, 33, 34, 35, 36, 37, 38, 39, 40, 41, 42, 43, 44, 45, 46, 47, 48, 49, 50, 51] [_, _, _, _, _, _, _, _, _, _, _, _, _, _, _, _, _, _, _, _, _, _, _, _, _, _, _, _, _, _, _, _, _, _, _, _, _, _, _] [] [] TD.mixed rfl rfl rfl ⟨⟨⟨⟨⟨⟨⟨⟨⟨⟨⟨⟨⟨⟨⟨⟨⟨⟨⟨⟨⟨⟨⟨⟨⟨⟨⟨⟨⟨⟨⟨⟨⟨⟨⟨⟨⟨⟨⟨trivial
              , ⟨_, rfl, fun sl hd hr ho => by
                  refine r_move (hr 5 _ rfl rfl rfl) rfl ?_
                  exact awl_nil ⟨rfl, post_put⟩⟩⟩
              , ⟨_, rfl, fun sl hd hr ho => by
                  refine r_move (hr 3 _ rfl rfl rfl) rfl ?_
                  exact awl_nil ⟨rfl, post_put⟩⟩⟩
              , ⟨_, rfl, fun sl hd hr ho => by
                  first | (refine r_lenS (hd 1 _ rfl rfl rfl) rfl TD.sl22 rfl ?_) | (refine r_lenNil (hd 1 _ rfl rfl rfl) TD.sl22 rfl ?_)
                  exact awl_nil ⟨rfl, post_put⟩⟩⟩
              , ⟨_, rfl, fun sl hd hr ho => by
                  refine r_cmp (hd 0 _ rfl rfl rfl) (hd 2 _ rfl rfl rfl) rfl rfl ?_
                  exact awl_nil ⟨rfl, post_put⟩⟩⟩
              , ⟨_, rfl, fun sl hd hr ho => by
                  refine r_move (hd 3 _ rfl rfl rfl) rfl ?_
                  exact awl_nil ⟨rfl, post_put⟩⟩⟩
              , ⟨_, rfl, fun sl hd hr ho => by
                  refine g_run rfl (hd 4 _ rfl rfl rfl) hg17 ?_
                  refine r_move (hr 3 _ rfl rfl rfl) rfl ?_
                  exact awl_nil ⟨rfl, post_put⟩⟩⟩
              , ⟨_, rfl, fun sl hd hr ho => by
                  refine g_run rfl (hd 4 _ rfl rfl rfl) hg17 ?_
                  refine r_move (hr 5 _ rfl rfl rfl) rfl ?_
                  exact awl_nil ⟨rfl, post_put⟩⟩⟩
              , ⟨_, rfl, fun sl hd hr ho => by
                  refine g_run rfl (hd 4 _ rfl rfl rfl) hg17 ?_
                  refine r_index (hd 5 _ rfl rfl rfl) rfl (hd 6 _ rfl rfl rfl) TD.sl22 TD.sz110 (by omega) (get_map hy) rfl ?_
                  exact awl_nil ⟨rfl, post_put⟩⟩⟩
              , ⟨_, rfl, fun sl hd hr ho => by
                  refine g_run rfl (hd 4 _ rfl rfl rfl) hg17 ?_
                  first | (refine r_fieldcp (hd 7 _ rfl rfl rfl) TD.f110_0 TD.sz3 rfl ?_) | (refine r_fieldb (hd 7 _ rfl rfl rfl) TD.f110_0 TD.sz3 rfl ?_)
                  exact awl_nil ⟨rfl, post_put⟩⟩⟩
              , ⟨_, rfl, fun sl hd hr ho => by
                  refine g_run rfl (hd 4 _ rfl rfl rfl) hg17 ?_
                  refine r_load1 (hd 8 _ rfl rfl rfl) TD.agg3 rfl ?_
                  exact awl_nil ⟨rfl, post_put⟩⟩⟩
              , ⟨_, rfl, fun sl hd hr ho => by
                  refine g_run rfl (hd 4 _ rfl rfl rfl) hg17 ?_
                  refine r_move (hr 0 _ rfl rfl rfl) rfl ?_
                  exact awl_nil ⟨rfl, post_put⟩⟩⟩
              , ⟨_, rfl, fun sl hd hr ho => by
                  refine g_run rfl (hd 4 _ rfl rfl rfl) hg17 ?_
                  refine r_move (hr 4 _ rfl rfl rfl) rfl ?_
                  exact awl_nil ⟨rfl, post_put⟩⟩⟩
              , ⟨_, rfl, fun sl hd hr ho => by
                  refine g_run rfl (hd 4 _ rfl rfl rfl) hg17 ?_
                  refine r_index (hd 10 _ rfl rfl rfl) rfl (hd 11 _ rfl rfl rfl) TD.sl22 TD.sz110 (by omega) (get_map hx) rfl ?_
                  exact awl_nil ⟨rfl, post_put⟩⟩⟩
              , ⟨_, rfl, fun sl hd hr ho => by
                  refine g_run rfl (hd 4 _ rfl rfl rfl) hg17 ?_
                  first | (refine r_fieldcp (hd 12 _ rfl rfl rfl) TD.f110_0 TD.sz3 rfl ?_) | (refine r_fieldb (hd 12 _ rfl rfl rfl) TD.f110_0 TD.sz3 rfl ?_)
                  exact awl_nil ⟨rfl, post_put⟩⟩⟩
              , ⟨_, rfl, fun sl hd hr ho => by
                  refine g_run rfl (hd 4 _ rfl rfl rfl) hg17 ?_
                  refine r_load1 (hd 13 _ rfl rfl rfl) TD.agg3 rfl ?_
                  exact awl_nil ⟨rfl, post_put⟩⟩⟩
              , ⟨_, rfl, fun sl hd hr ho => by
                  refine g_run rfl (hd 4 _ rfl rfl rfl) hg17 ?_
                  refine r_cmp (hd 9 _ rfl rfl rfl) (hd 14 _ rfl rfl rfl) rfl rfl ?_
                  exact awl_nil ⟨rfl, post_put⟩⟩⟩
              , ⟨_, rfl, fun sl hd hr ho => by
                  refine g_run rfl (hd 4 _ rfl rfl rfl) hg17 ?_
                  refine r_move (hd 15 _ rfl rfl rfl) rfl ?_
                  exact awl_nil ⟨rfl, post_put⟩⟩⟩
              , ⟨_, rfl, fun sl hd hr ho => by
                  refine g_run rfl (hd 16 _ rfl rfl rfl) hg29 ?_
                  refine r_move (hr 3 _ rfl rfl rfl) rfl ?_
                  exact awl_nil ⟨rfl, post_put⟩⟩⟩
              , ⟨_, rfl, fun sl hd hr ho => by
                  refine g_run rfl (hd 16 _ rfl rfl rfl) hg29 ?_
                  refine r_move (hr 5 _ rfl rfl rfl) rfl ?_
                  exact awl_nil ⟨rfl, post_put⟩⟩⟩
              , ⟨_, rfl, fun sl hd hr ho => by
                  refine g_run rfl (hd 16 _ rfl rfl rfl) hg29 ?_
                  refine r_index (hd 17 _ rfl rfl rfl) rfl (hd 18 _ rfl rfl rfl) TD.sl22 TD.sz110 (by omega) (get_map hy) rfl ?_
                  exact awl_nil ⟨rfl, post_put⟩⟩⟩
              , ⟨_, rfl, fun sl hd hr ho => by
                  refine g_run rfl (hd 16 _ rfl rfl rfl) hg29 ?_
                  first | (refine r_fieldcp (hd 19 _ rfl rfl rfl) TD.f110_0 TD.sz3 rfl ?_) | (refine r_fieldb (hd 19 _ rfl rfl rfl) TD.f110_0 TD.sz3 rfl ?_)
                  exact awl_nil ⟨rfl, post_put⟩⟩⟩
              , ⟨_, rfl, fun sl hd hr ho => by
                  refine g_run rfl (hd 16 _ rfl rfl rfl) hg29 ?_
                  refine r_load1 (hd 20 _ rfl rfl rfl) TD.agg3 rfl ?_
                  exact awl_nil ⟨rfl, post_put⟩⟩⟩
              , ⟨_, rfl, fun sl hd hr ho => by
                  refine g_run rfl (hd 16 _ rfl rfl rfl) hg29 ?_
                  refine r_move (hr 0 _ rfl rfl rfl) rfl ?_
                  exact awl_nil ⟨rfl, post_put⟩⟩⟩
              , ⟨_, rfl, fun sl hd hr ho => by
                  refine g_run rfl (hd 16 _ rfl rfl rfl) hg29 ?_
                  refine r_move (hr 4 _ rfl rfl rfl) rfl ?_
                  exact awl_nil ⟨rfl, post_put⟩⟩⟩
              , ⟨_, rfl, fun sl hd hr ho => by
                  refine g_run rfl (hd 16 _ rfl rfl rfl) hg29 ?_
                  refine r_index (hd 22 _ rfl rfl rfl) rfl (hd 23 _ rfl rfl rfl) TD.sl22 TD.sz110 (by omega) (get_map hx) rfl ?_
                  exact awl_nil ⟨rfl, post_put⟩⟩⟩
              , ⟨_, rfl, fun sl hd hr ho => by
                  refine g_run rfl (hd 16 _ rfl rfl rfl) hg29 ?_
                  first | (refine r_fieldcp (hd 24 _ rfl rfl rfl) TD.f110_0 TD.sz3 rfl ?_) | (refine r_fieldb (hd 24 _ rfl rfl rfl) TD.f110_0 TD.sz3 rfl ?_)
                  exact awl_nil ⟨rfl, post_put⟩⟩⟩
              , ⟨_, rfl, fun sl hd hr ho => by
                  refine g_run rfl (hd 16 _ rfl rfl rfl) hg29 ?_
                  refine r_load1 (hd 25 _ rfl rfl rfl) TD.agg3 rfl ?_
                  exact awl_nil ⟨rfl, post_put⟩⟩⟩
              , ⟨_, rfl, fun sl hd hr ho => by
                  refine g_run rfl (hd 16 _ rfl rfl rfl) hg29 ?_
                  refine r_cmp (hd 21 _ rfl rfl rfl) (hd 26 _ rfl rfl rfl) rfl rfl ?_
                  exact awl_nil ⟨rfl, post_put⟩⟩⟩
              , ⟨_, rfl, fun sl hd hr ho => by
                  refine g_run rfl (hd 16 _ rfl rfl rfl) hg29 ?_
                  refine r_move (hd 27 _ rfl rfl rfl) rfl ?_
                  exact awl_nil ⟨rfl, post_put⟩⟩⟩
              , ⟨_, rfl, fun sl hd hr ho => by
                  refine g_skip rfl (hd 28 _ rfl rfl rfl) hg41 rfl ?_
                  exact awl_nil ⟨rfl, post_put⟩⟩⟩
              , ⟨_, rfl, fun sl hd hr ho => by
                  refine g_skip rfl (hd 28 _ rfl rfl rfl) hg41 rfl ?_
                  exact awl_nil ⟨rfl, post_put⟩⟩⟩
              , ⟨_, rfl, fun sl hd hr ho => by
                  refine g_skip rfl (hd 28 _ rfl rfl rfl) hg41 rfl ?_
                  exact awl_nil ⟨rfl, post_put⟩⟩⟩
              , ⟨_, rfl, fun sl hd hr ho => by
                  refine g_skip rfl (hd 28 _ rfl rfl rfl) hg41 rfl ?_
                  exact awl_nil ⟨rfl, post_put⟩⟩⟩
              , ⟨_, rfl, fun sl hd hr ho => by
                  refine g_skip rfl (hd 28 _ rfl rfl rfl) hg41 rfl ?_
                  exact awl_nil ⟨rfl, post_put⟩⟩⟩
              , ⟨_, rfl, fun sl hd hr ho => by
                  refine g_skip rfl (hd 28 _ rfl rfl rfl) hg41 rfl ?_
                  exact awl_nil ⟨rfl, post_put⟩⟩⟩
              , ⟨_, rfl, fun sl hd hr ho => by
                  refine g_skip rfl (hd 28 _ rfl rfl rfl) hg41 rfl ?_
                  exact awl_nil ⟨rfl, post_put⟩⟩⟩
              , ⟨_, rfl, fun sl hd hr ho => by
                  refine g_skip rfl (hd 28 _ rfl rfl rfl) hg41 rfl ?_
                  exact awl_nil ⟨rfl, post_put⟩⟩⟩
              , ⟨_, rfl, fun sl hd hr ho => by
                  refine g_skip rfl (hd 28 _ rfl rfl rfl) hg41 rfl ?_
                  exact awl_nil ⟨rfl, post_put⟩⟩⟩
              , ⟨_, rfl, fun sl hd hr ho => by
                  refine g_skip rfl (hd 28 _ rfl rfl rfl) hg41 rfl ?_
                  exact awl_nil ⟨rfl, post_put⟩⟩⟩
              (by rfl) ?_
            refine g_skip rfl rfl hg41 rfl ?_
            refine g_run rfl rfl hg29 ?_
            refine r_pickF rfl hg41 rfl rfl ?_
            refine g_run rfl rfl hg17 ?_
            refine r_pickF rfl hg29 rfl rfl ?_
            refine r_pickT rfl hg17 rfl rfl ?_
            refine awl_nil ?_
            refine x_then ?_
            refine awp_condF rfl ?_
            refine awp_exit ?_
            refine x_thenE ?_
            refine x_thenE ?_
            refine x_blockE ?_
            refine x_then ?_
            refine ⟨⟨111, [(0, .a (entsA l)), (3, .a (plesA acc)), (4, .a (.v (.int .i64 ((i : Int))))), (5, .a (.v (.int .i64 (((j) : Int)))))], []⟩, ⟨rfl, (Slots.cons rfl (by first | exact .refl _ | exact .nilOwn _ _ | exact .nilSl _ | exact .ownSl _ _ _  | exact SV.le.of_eq (by simp)) (Slots.cons rfl (by first | exact .refl _ | exact .nilOwn _ _ | exact .nilSl _ | exact .ownSl _ _ _  | exact SV.le.of_eq (by simp)) (Slots.cons rfl (by first | exact .refl _ | exact .nilOwn _ _ | exact .nilSl _ | exact .ownSl _ _ _  | exact SV.le.of_eq (by simp)) (Slots.cons rfl (by first | exact .refl _ | exact .nilOwn _ _ | exact .nilSl _ | exact .ownSl _ _ _  | exact SV.le.of_eq (by simp)) Slots.nil)))), (by first | exact List.Sublist.refl _ | exact .cons_cons _ (.cons _ (.refl _)) | exact List.nil_sublist _ | exact .cons _ (.refl _) | exact .cons _ (.cons _ (.refl _)) | exact .cons _ (.cons _ (.cons _ (.refl _))) | exact .cons _ (.cons _ (.cons _ (.cons _ (.refl _)))) | exact .cons_cons _ (List.nil_sublist _))⟩, ⟨j, rfl, hj, ha, (fun z hz => by first | (rw [hy] at hz; cases hz; exact hnl) | (have := (List.getElem?_eq_some_iff.1 hz).1; omega))⟩⟩
      ·
        have hgej : acc.length ≤ j := by have := of_decide_eq_false hg17; simp at this; omega
        refine awp_drawS [13, 14, 15, 16, 17, 18, 19, 20, 21, 22, 23, 24, 25, 26, 27, 28, 29, 30, 31, 32, 33, 34, 35, 36, 37, 38, 39, 40, 41, 42, 43, 44, 45, 46, 47, 48, 49, 50, 51] [_, _, _, _, _, _, _, _, _, _, _, _, _, _, _, _, _, _, _, _, _, _, _, _, _, _, _, _, _, _, _, _, _, _, _, _, _, _, _] [] [] TD.mixed rfl rfl rfl ⟨⟨⟨⟨⟨⟨⟨⟨⟨⟨⟨⟨⟨⟨⟨⟨⟨⟨⟨⟨⟨⟨⟨⟨⟨⟨⟨⟨⟨⟨⟨⟨⟨⟨⟨⟨⟨⟨⟨trivial
          , ⟨_, rfl, fun sl hd hr ho => by
              refine r_move (hr 5 _ rfl rfl rfl) rfl ?_
              exact awl_nil ⟨rfl, post_put⟩⟩⟩
          , ⟨_, rfl, fun sl hd hr ho => by
              refine r_move (hr 3 _ rfl rfl rfl) rfl ?_
              exact awl_nil ⟨rfl, post_put⟩⟩⟩
          , ⟨_, rfl, fun sl hd hr ho => by
              first | (refine r_lenS (hd 1 _ rfl rfl rfl) rfl TD.sl22 rfl ?_) | (refine r_lenNil (hd 1 _ rfl rfl rfl) TD.sl22 rfl ?_)
              exact awl_nil ⟨rfl, post_put⟩⟩⟩
          , ⟨_, rfl, fun sl hd hr ho => by
              refine r_cmp (hd 0 _ rfl rfl rfl) (hd 2 _ rfl rfl rfl) rfl rfl ?_
              exact awl_nil ⟨rfl, post_put⟩⟩⟩
          , ⟨_, rfl, fun sl hd hr ho => by
              refine r_move (hd 3 _ rfl rfl rfl) rfl ?_
              exact awl_nil ⟨rfl, post_put⟩⟩⟩
          , ⟨_, rfl, fun sl hd hr ho => by
              refine g_skip rfl (hd 4 _ rfl rfl rfl) hg17 rfl ?_
              exact awl_nil ⟨rfl, post_put⟩⟩⟩
          , ⟨_, rfl, fun sl hd hr ho => by
              refine g_skip rfl (hd 4 _ rfl rfl rfl) hg17 rfl ?_
              exact awl_nil ⟨rfl, post_put⟩⟩⟩
          , ⟨_, rfl, fun sl hd hr ho => by
              refine g_skip rfl (hd 4 _ rfl rfl rfl) hg17 rfl ?_
              exact awl_nil ⟨rfl, post_put⟩⟩⟩
          , ⟨_, rfl, fun sl hd hr ho => by
              refine g_skip rfl (hd 4 _ rfl rfl rfl) hg17 rfl ?_
              exact awl_nil ⟨rfl, post_put⟩⟩⟩
          , ⟨_, rfl, fun sl hd hr ho => by
              refine g_skip rfl (hd 4 _ rfl rfl rfl) hg17 rfl ?_
              exact awl_nil ⟨rfl, post_put⟩⟩⟩
          , ⟨_, rfl, fun sl hd hr ho => by
              refine g_skip rfl (hd 4 _ rfl rfl rfl) hg17 rfl ?_
              exact awl_nil ⟨rfl, post_put⟩⟩⟩
          , ⟨_, rfl, fun sl hd hr ho => by
              refine g_skip rfl (hd 4 _ rfl rfl rfl) hg17 rfl ?_
              exact awl_nil ⟨rfl, post_put⟩⟩⟩
          , ⟨_, rfl, fun sl hd hr ho => by
              refine g_skip rfl (hd 4 _ rfl rfl rfl) hg17 rfl ?_
              exact awl_nil ⟨rfl, post_put⟩⟩⟩
          , ⟨_, rfl, fun sl hd hr ho => by
              refine g_skip rfl (hd 4 _ rfl rfl rfl) hg17 rfl ?_
              exact awl_nil ⟨rfl, post_put⟩⟩⟩
          , ⟨_, rfl, fun sl hd hr ho => by
              refine g_skip rfl (hd 4 _ rfl rfl rfl) hg17 rfl ?_
              exact awl_nil ⟨rfl, post_put⟩⟩⟩
          , ⟨_, rfl, fun sl hd hr ho => by
              refine g_skip rfl (hd 4 _ rfl rfl rfl) hg17 rfl ?_
              exact awl_nil ⟨rfl, post_put⟩⟩⟩
          , ⟨_, rfl, fun sl hd hr ho => by
              refine g_skip rfl (hd 4 _ rfl rfl rfl) hg17 rfl ?_
              exact awl_nil ⟨rfl, post_put⟩⟩⟩
          , ⟨_, rfl, fun sl hd hr ho => by
              refine g_skipU rfl (hd 16 _ rfl rfl rfl) rfl ?_
              exact awl_nil ⟨rfl, post_put⟩⟩⟩
          , ⟨_, rfl, fun sl hd hr ho => by
              refine g_skipU rfl (hd 16 _ rfl rfl rfl) rfl ?_
              exact awl_nil ⟨rfl, post_put⟩⟩⟩
          , ⟨_, rfl, fun sl hd hr ho => by
              refine g_skipU rfl (hd 16 _ rfl rfl rfl) rfl ?_
              exact awl_nil ⟨rfl, post_put⟩⟩⟩
          , ⟨_, rfl, fun sl hd hr ho => by
              refine g_skipU rfl (hd 16 _ rfl rfl rfl) rfl ?_
              exact awl_nil ⟨rfl, post_put⟩⟩⟩
          , ⟨_, rfl, fun sl hd hr ho => by
              refine g_skipU rfl (hd 16 _ rfl rfl rfl) rfl ?_
              exact awl_nil ⟨rfl, post_put⟩⟩⟩
          , ⟨_, rfl, fun sl hd hr ho => by
              refine g_skipU rfl (hd 16 _ rfl rfl rfl) rfl ?_
              exact awl_nil ⟨rfl, post_put⟩⟩⟩
          , ⟨_, rfl, fun sl hd hr ho => by
              refine g_skipU rfl (hd 16 _ rfl rfl rfl) rfl ?_
              exact awl_nil ⟨rfl, post_put⟩⟩⟩
          , ⟨_, rfl, fun sl hd hr ho => by
              refine g_skipU rfl (hd 16 _ rfl rfl rfl) rfl ?_
              exact awl_nil ⟨rfl, post_put⟩⟩⟩
          , ⟨_, rfl, fun sl hd hr ho => by
              refine g_skipU rfl (hd 16 _ rfl rfl rfl) rfl ?_
              exact awl_nil ⟨rfl, post_put⟩⟩⟩
          , ⟨_, rfl, fun sl hd hr ho => by
              refine g_skipU rfl (hd 16 _ rfl rfl rfl) rfl ?_
              exact awl_nil ⟨rfl, post_put⟩⟩⟩
          , ⟨_, rfl, fun sl hd hr ho => by
              refine g_skipU rfl (hd 16 _ rfl rfl rfl) rfl ?_
              exact awl_nil ⟨rfl, post_put⟩⟩⟩
          , ⟨_, rfl, fun sl hd hr ho => by
              refine g_skipU rfl (hd 16 _ rfl rfl rfl) rfl ?_
              exact awl_nil ⟨rfl, post_put⟩⟩⟩
          , ⟨_, rfl, fun sl hd hr ho => by
              refine g_skipU rfl (hd 28 _ rfl rfl rfl) rfl ?_
              exact awl_nil ⟨rfl, post_put⟩⟩⟩
          , ⟨_, rfl, fun sl hd hr ho => by
              refine g_skipU rfl (hd 28 _ rfl rfl rfl) rfl ?_
              exact awl_nil ⟨rfl, post_put⟩⟩⟩
          , ⟨_, rfl, fun sl hd hr ho => by
              refine g_skipU rfl (hd 28 _ rfl rfl rfl) rfl ?_
              exact awl_nil ⟨rfl, post_put⟩⟩⟩
          , ⟨_, rfl, fun sl hd hr ho => by
              refine g_skipU rfl (hd 28 _ rfl rfl rfl) rfl ?_
              exact awl_nil ⟨rfl, post_put⟩⟩⟩
          , ⟨_, rfl, fun sl hd hr ho => by
              refine g_skipU rfl (hd 28 _ rfl rfl rfl) rfl ?_
              exact awl_nil ⟨rfl, post_put⟩⟩⟩
          , ⟨_, rfl, fun sl hd hr ho => by
              refine g_skipU rfl (hd 28 _ rfl rfl rfl) rfl ?_
              exact awl_nil ⟨rfl, post_put⟩⟩⟩
          , ⟨_, rfl, fun sl hd hr ho => by
              refine g_skipU rfl (hd 28 _ rfl rfl rfl) rfl ?_
              exact awl_nil ⟨rfl, post_put⟩⟩⟩
          , ⟨_, rfl, fun sl hd hr ho => by
              refine g_skipU rfl (hd 28 _ rfl rfl rfl) rfl ?_
              exact awl_nil ⟨rfl, post_put⟩⟩⟩
          , ⟨_, rfl, fun sl hd hr ho => by
              refine g_skipU rfl (hd 28 _ rfl rfl rfl) rfl ?_
              exact awl_nil ⟨rfl, post_put⟩⟩⟩
          , ⟨_, rfl, fun sl hd hr ho => by
              refine g_skipU rfl (hd 28 _ rfl rfl rfl) rfl ?_
              exact awl_nil ⟨rfl, post_put⟩⟩⟩
          (by rfl) ?_
        refine g_skipU rfl rfl rfl ?_
        refine g_skipU rfl rfl rfl ?_
        refine g_skip rfl rfl hg17 rfl ?_
        refine r_pickF rfl hg17 rfl rfl ?_
        refine awl_nil ?_
        refine x_then ?_
        refine awp_condF rfl ?_
        refine awp_exit ?_
        refine x_thenE ?_
        refine x_thenE ?_
        refine x_blockE ?_
        refine x_then ?_
        refine ⟨⟨111, [(0, .a (entsA l)), (3, .a (plesA acc)), (4, .a (.v (.int .i64 ((i : Int))))), (5, .a (.v (.int .i64 (((j) : Int)))))], []⟩, ⟨rfl, (Slots.cons rfl (by first | exact .refl _ | exact .nilOwn _ _ | exact .nilSl _ | exact .ownSl _ _ _  | exact SV.le.of_eq (by simp)) (Slots.cons rfl (by first | exact .refl _ | exact .nilOwn _ _ | exact .nilSl _ | exact .ownSl _ _ _  | exact SV.le.of_eq (by simp)) (Slots.cons rfl (by first | exact .refl _ | exact .nilOwn _ _ | exact .nilSl _ | exact .ownSl _ _ _  | exact SV.le.of_eq (by simp)) (Slots.cons rfl (by first | exact .refl _ | exact .nilOwn _ _ | exact .nilSl _ | exact .ownSl _ _ _  | exact SV.le.of_eq (by simp)) Slots.nil)))), (by first | exact List.Sublist.refl _ | exact .cons_cons _ (.cons _ (.refl _)) | exact List.nil_sublist _ | exact .cons _ (.refl _) | exact .cons _ (.cons _ (.refl _)) | exact .cons _ (.cons _ (.cons _ (.refl _))) | exact .cons _ (.cons _ (.cons _ (.cons _ (.refl _)))) | exact .cons_cons _ (List.nil_sublist _))⟩, ⟨j, rfl, hj, ha, (fun z hz => by first | (rw [hy] at hz; cases hz; exact hnl) | (have := (List.getElem?_eq_some_iff.1 hz).1; omega))⟩⟩
    ·
      rintro _ ⟨j, rfl, hj, ha, hs⟩
      refine awp_seq ?_
      refine awp_seq ?_
      rcases Bool.eq_false_or_eq_true (decide ((j : Int) < (acc.map PE).length)) with hg62 | hg62
      ·
        have hlty : j < acc.length := by have := of_decide_eq_true hg62; simpa using this
        obtain ⟨y, hy⟩ := get_lt hlty
        rcases Bool.eq_false_or_eq_true (y.1 == x.vol) with hg75 | hg75
        ·
          have h2 : y.1 = x.vol := eq_of_beq hg75
          refine awp_drawS [58, 59, 60, 61, 62, 63, 64, 65, 66, 67, 68, 69, 70, 71, 72, 73, 74, 75, 76, 77, 78, 79, 80, 81, 82, 83, 84, 85] [_, _, _, _, _, _, _, _, _, _, _, _, _, _, _, _, _, _, _, _, _, _, _, _, _, _, _, _] [] [] TD.mixed rfl rfl rfl ⟨⟨⟨⟨⟨⟨⟨⟨⟨⟨⟨⟨⟨⟨⟨⟨⟨⟨⟨⟨⟨⟨⟨⟨⟨⟨⟨⟨trivial
            , ⟨_, rfl, fun sl hd hr ho => by
                refine r_move (hr 5 _ rfl rfl rfl) rfl ?_
                exact awl_nil ⟨rfl, post_put⟩⟩⟩
            , ⟨_, rfl, fun sl hd hr ho => by
                refine r_move (hr 3 _ rfl rfl rfl) rfl ?_
                exact awl_nil ⟨rfl, post_put⟩⟩⟩
            , ⟨_, rfl, fun sl hd hr ho => by
                first | (refine r_lenS (hd 1 _ rfl rfl rfl) rfl TD.sl22 rfl ?_) | (refine r_lenNil (hd 1 _ rfl rfl rfl) TD.sl22 rfl ?_)
                exact awl_nil ⟨rfl, post_put⟩⟩⟩
            , ⟨_, rfl, fun sl hd hr ho => by
                refine r_cmp (hd 0 _ rfl rfl rfl) (hd 2 _ rfl rfl rfl) rfl rfl ?_
                exact awl_nil ⟨rfl, post_put⟩⟩⟩
            , ⟨_, rfl, fun sl hd hr ho => by
                refine r_move (hd 3 _ rfl rfl rfl) rfl ?_
                exact awl_nil ⟨rfl, post_put⟩⟩⟩
            , ⟨_, rfl, fun sl hd hr ho => by
                refine g_run rfl (hd 4 _ rfl rfl rfl) hg62 ?_
                refine r_move (hr 3 _ rfl rfl rfl) rfl ?_
                exact awl_nil ⟨rfl, post_put⟩⟩⟩
            , ⟨_, rfl, fun sl hd hr ho => by
                refine g_run rfl (hd 4 _ rfl rfl rfl) hg62 ?_
                refine r_move (hr 5 _ rfl rfl rfl) rfl ?_
                exact awl_nil ⟨rfl, post_put⟩⟩⟩
            , ⟨_, rfl, fun sl hd hr ho => by
                refine g_run rfl (hd 4 _ rfl rfl rfl) hg62 ?_
                refine r_index (hd 5 _ rfl rfl rfl) rfl (hd 6 _ rfl rfl rfl) TD.sl22 TD.sz110 (by omega) (get_map hy) rfl ?_
                exact awl_nil ⟨rfl, post_put⟩⟩⟩
            , ⟨_, rfl, fun sl hd hr ho => by
                refine g_run rfl (hd 4 _ rfl rfl rfl) hg62 ?_
                first | (refine r_fieldcp (hd 7 _ rfl rfl rfl) TD.f110_0 TD.sz3 rfl ?_) | (refine r_fieldb (hd 7 _ rfl rfl rfl) TD.f110_0 TD.sz3 rfl ?_)
                exact awl_nil ⟨rfl, post_put⟩⟩⟩
            , ⟨_, rfl, fun sl hd hr ho => by
                refine g_run rfl (hd 4 _ rfl rfl rfl) hg62 ?_
                refine r_load1 (hd 8 _ rfl rfl rfl) TD.agg3 rfl ?_
                exact awl_nil ⟨rfl, post_put⟩⟩⟩
            , ⟨_, rfl, fun sl hd hr ho => by
                refine g_run rfl (hd 4 _ rfl rfl rfl) hg62 ?_
                refine r_move (hr 0 _ rfl rfl rfl) rfl ?_
                exact awl_nil ⟨rfl, post_put⟩⟩⟩
            , ⟨_, rfl, fun sl hd hr ho => by
                refine g_run rfl (hd 4 _ rfl rfl rfl) hg62 ?_
                refine r_move (hr 4 _ rfl rfl rfl) rfl ?_
                exact awl_nil ⟨rfl, post_put⟩⟩⟩
            , ⟨_, rfl, fun sl hd hr ho => by
                refine g_run rfl (hd 4 _ rfl rfl rfl) hg62 ?_
                refine r_index (hd 10 _ rfl rfl rfl) rfl (hd 11 _ rfl rfl rfl) TD.sl22 TD.sz110 (by omega) (get_map hx) rfl ?_
                exact awl_nil ⟨rfl, post_put⟩⟩⟩
            , ⟨_, rfl, fun sl hd hr ho => by
                refine g_run rfl (hd 4 _ rfl rfl rfl) hg62 ?_
                first | (refine r_fieldcp (hd 12 _ rfl rfl rfl) TD.f110_0 TD.sz3 rfl ?_) | (refine r_fieldb (hd 12 _ rfl rfl rfl) TD.f110_0 TD.sz3 rfl ?_)
                exact awl_nil ⟨rfl, post_put⟩⟩⟩
            , ⟨_, rfl, fun sl hd hr ho => by
                refine g_run rfl (hd 4 _ rfl rfl rfl) hg62 ?_
                refine r_load1 (hd 13 _ rfl rfl rfl) TD.agg3 rfl ?_
                exact awl_nil ⟨rfl, post_put⟩⟩⟩
            , ⟨_, rfl, fun sl hd hr ho => by
                refine g_run rfl (hd 4 _ rfl rfl rfl) hg62 ?_
                refine r_cmp (hd 9 _ rfl rfl rfl) (hd 14 _ rfl rfl rfl) rfl rfl ?_
                exact awl_nil ⟨rfl, post_put⟩⟩⟩
            , ⟨_, rfl, fun sl hd hr ho => by
                refine r_pickT (hd 4 _ rfl rfl rfl) hg62 (hd 15 _ rfl rfl rfl) rfl ?_
                exact awl_nil ⟨rfl, post_put⟩⟩⟩
            , ⟨_, rfl, fun sl hd hr ho => by
                refine r_move (hd 16 _ rfl rfl rfl) rfl ?_
                exact awl_nil ⟨rfl, post_put⟩⟩⟩
            , ⟨_, rfl, fun sl hd hr ho => by
                refine g_run rfl (hd 17 _ rfl rfl rfl) hg75 ?_
                refine r_move (hr 3 _ rfl rfl rfl) rfl ?_
                exact awl_nil ⟨rfl, post_put⟩⟩⟩
            , ⟨_, rfl, fun sl hd hr ho => by
                refine g_run rfl (hd 17 _ rfl rfl rfl) hg75 ?_
                refine r_move (hr 5 _ rfl rfl rfl) rfl ?_
                exact awl_nil ⟨rfl, post_put⟩⟩⟩
            , ⟨_, rfl, fun sl hd hr ho => by
                refine g_run rfl (hd 17 _ rfl rfl rfl) hg75 ?_
                refine r_index (hd 18 _ rfl rfl rfl) rfl (hd 19 _ rfl rfl rfl) TD.sl22 TD.sz110 (by omega) (get_map hy) rfl ?_
                exact awl_nil ⟨rfl, post_put⟩⟩⟩
            , ⟨_, rfl, fun sl hd hr ho => by
                refine g_run rfl (hd 17 _ rfl rfl rfl) hg75 ?_
                first | (refine r_fieldcp (hd 20 _ rfl rfl rfl) TD.f110_1 TD.sz3 rfl ?_) | (refine r_fieldb (hd 20 _ rfl rfl rfl) TD.f110_1 TD.sz3 rfl ?_)
                exact awl_nil ⟨rfl, post_put⟩⟩⟩
            , ⟨_, rfl, fun sl hd hr ho => by
                refine g_run rfl (hd 17 _ rfl rfl rfl) hg75 ?_
                refine r_load1 (hd 21 _ rfl rfl rfl) TD.agg3 rfl ?_
                exact awl_nil ⟨rfl, post_put⟩⟩⟩
            , ⟨_, rfl, fun sl hd hr ho => by
                refine g_run rfl (hd 17 _ rfl rfl rfl) hg75 ?_
                refine r_move (hr 0 _ rfl rfl rfl) rfl ?_
                exact awl_nil ⟨rfl, post_put⟩⟩⟩
            , ⟨_, rfl, fun sl hd hr ho => by
                refine g_run rfl (hd 17 _ rfl rfl rfl) hg75 ?_
                refine r_move (hr 4 _ rfl rfl rfl) rfl ?_
                exact awl_nil ⟨rfl, post_put⟩⟩⟩
            , ⟨_, rfl, fun sl hd hr ho => by
                refine g_run rfl (hd 17 _ rfl rfl rfl) hg75 ?_
                refine r_index (hd 23 _ rfl rfl rfl) rfl (hd 24 _ rfl rfl rfl) TD.sl22 TD.sz110 (by omega) (get_map hx) rfl ?_
                exact awl_nil ⟨rfl, post_put⟩⟩⟩
            , ⟨_, rfl, fun sl hd hr ho => by
                refine g_run rfl (hd 17 _ rfl rfl rfl) hg75 ?_
                first | (refine r_fieldcp (hd 25 _ rfl rfl rfl) TD.f110_1 TD.sz3 rfl ?_) | (refine r_fieldb (hd 25 _ rfl rfl rfl) TD.f110_1 TD.sz3 rfl ?_)
                exact awl_nil ⟨rfl, post_put⟩⟩⟩
            , ⟨_, rfl, fun sl hd hr ho => by
                refine g_run rfl (hd 17 _ rfl rfl rfl) hg75 ?_
                refine r_load1 (hd 26 _ rfl rfl rfl) TD.agg3 rfl ?_
                exact awl_nil ⟨rfl, post_put⟩⟩⟩
            (by rfl) ?_
          refine g_run rfl rfl hg75 ?_
          refine r_cmp rfl rfl rfl rfl ?_
          refine r_pickT rfl hg75 rfl rfl ?_
          refine awl_nil ?_
          refine x_then ?_
          refine awp_cond rfl (fun hc2 => ?_) (fun hc2 => ?_)
          ·
            have hins : insP acc x.pl = acc := by rw [insP_at ha hj hs, hy]; simp only [show y = x.pl from Prod.ext h2 (eq_of_beq hc2 : y.2 = x.blk), if_true]
            refine awp_exit ?_
            refine x_thenE ?_
            refine x_blockE ?_
            refine x_then ?_
            refine awp_region ?_
            refine r_move rfl rfl ?_
            refine r_ari _ rfl rfl rfl (wrap_id (by first | omega | (simp; omega))) rfl ?_
            refine r_assign rfl rfl ?_
            refine awl_nil ?_
            refine x_then ?_
            refine ⟨l.length - (i + 1), ⟨111, [(0, .a (entsA l)), (3, .a (plesA (insP acc x.pl))), (4, .a (.v (.int .i64 (((i + 1) : Int)))))], []⟩, ⟨rfl, (Slots.cons rfl (by first | exact .refl _ | exact .nilOwn _ _ | exact .nilSl _ | exact .ownSl _ _ _  | exact SV.le.ownEq (by first | rfl | (rw [hins]; done) | (rw [hins]; rfl) | (rw [hins]; simp [chunks, PE, Ent.cs, Ent.pl, List.map_take, List.map_drop]; rfl)) | exact SV.le.of_eq (by first | rfl | (rw [hins]; done) | (rw [hins]; rfl) | (rw [hins]; simp [chunks, PE, Ent.cs, Ent.pl, List.map_take, List.map_drop]; rfl))) (Slots.cons rfl (by first | exact .refl _ | exact .nilOwn _ _ | exact .nilSl _ | exact .ownSl _ _ _  | exact SV.le.ownEq (by first | rfl | (rw [hins]; done) | (rw [hins]; rfl) | (rw [hins]; simp [chunks, PE, Ent.cs, Ent.pl, List.map_take, List.map_drop]; rfl)) | exact SV.le.of_eq (by first | rfl | (rw [hins]; done) | (rw [hins]; rfl) | (rw [hins]; simp [chunks, PE, Ent.cs, Ent.pl, List.map_take, List.map_drop]; rfl))) (Slots.cons rfl (by first | exact .refl _ | exact .nilOwn _ _ | exact .nilSl _ | exact .ownSl _ _ _  | exact SV.le.ownEq (by first | rfl | (rw [hins]; done) | (rw [hins]; rfl) | (rw [hins]; simp [chunks, PE, Ent.cs, Ent.pl, List.map_take, List.map_drop]; rfl)) | exact SV.le.of_eq (by first | rfl | (rw [hins]; done) | (rw [hins]; rfl) | (rw [hins]; simp [chunks, PE, Ent.cs, Ent.pl, List.map_take, List.map_drop]; rfl))) Slots.nil))), (by first | exact List.Sublist.refl _ | exact .cons_cons _ (.cons _ (.refl _)) | exact List.nil_sublist _ | exact .cons _ (.refl _) | exact .cons _ (.cons _ (.refl _)) | exact .cons _ (.cons _ (.cons _ (.refl _))) | exact .cons _ (.cons _ (.cons _ (.cons _ (.refl _)))) | exact .cons_cons _ (List.nil_sublist _))⟩, (by omega), ⟨i + 1, insP acc x.pl, rfl, rfl, (by omega), (insAll_step hx hacc), (by have := insP_len acc x.pl; omega)⟩⟩
          ·
            have hins : insP acc x.pl = acc.take j ++ x.pl :: acc.drop j := by rw [insP_at ha hj hs, hy]; simp only [show ¬ y = x.pl from fun e => (by simpa using hc2 : ¬ y.2 = x.blk) (congrArg Prod.snd e), if_false]
            refine awp_skip ?_
            refine x_then ?_
            refine awp_drawS [88, 89, 90, 91, 92, 93, 94, 95, 96, 97, 98, 99, 100, 101, 102, 103, 104, 105, 106, 107, 108] [_, _, _, _, _, _, _, _, _, _, _, _, _, _, _, _, _, _, _, _, _] [[], [], [], [], [88], [], [], [], [], [], [], [], [], [], [], [], [], [88, 92]] [(0, 88), (4, 88), (16, 104), (17, 88)] TD.mixed rfl rfl rfl ⟨⟨⟨⟨⟨⟨⟨⟨⟨⟨⟨⟨⟨⟨⟨⟨⟨⟨⟨⟨⟨trivial
              , ⟨_, rfl, fun sl hd hr ho => by
                  refine r_lit 88 (parts := []) rfl TD.sl22 TD.sz110 TD.zraw110 rfl rfl parts_nil rfl rfl rfl rfl ?_
                  exact awl_nil ⟨rfl, (post_dem (ho 88 (List.mem_of_elem_eq_true rfl)))⟩⟩⟩
              , ⟨_, rfl, fun sl hd hr ho => by
                  refine r_move (hr 3 _ rfl rfl rfl) rfl ?_
                  exact awl_nil ⟨rfl, post_put⟩⟩⟩
              , ⟨_, rfl, fun sl hd hr ho => by
                  refine r_move (hr 5 _ rfl rfl rfl) rfl ?_
                  exact awl_nil ⟨rfl, post_put⟩⟩⟩
              , ⟨_, rfl, fun sl hd hr ho => by
                  refine r_sliceH (hd 1 _ rfl rfl rfl) rfl (hd 2 _ rfl rfl rfl) TD.sl22 TD.sz110 (by omega) (by simp; omega) rfl ?_
                  exact awl_nil ⟨rfl, post_put⟩⟩⟩
              , ⟨_, rfl, fun sl hd hr ho => by
                  refine r_append 88 (hd 0 _ rfl rfl rfl) (by first | exact .own _ | exact .nil) (hd 3 _ rfl rfl rfl) (by first | exact .sl _ | exact .own _ _ | exact .nil) TD.sl22 TD.sz110 (by decide) TD.by110 TD.zlen110 (by simp [chunks] <;> omega) (by simp [chunks] <;> omega) rfl ?_
                  exact awl_nil ⟨rfl, (post_dem (ho 88 (List.mem_of_elem_eq_true rfl)))⟩⟩⟩
              , ⟨_, rfl, fun sl hd hr ho => by
                  refine r_move (hr 0 _ rfl rfl rfl) rfl ?_
                  exact awl_nil ⟨rfl, post_put⟩⟩⟩
              , ⟨_, rfl, fun sl hd hr ho => by
                  refine r_move (hr 4 _ rfl rfl rfl) rfl ?_
                  exact awl_nil ⟨rfl, post_put⟩⟩⟩
              , ⟨_, rfl, fun sl hd hr ho => by
                  refine r_index (hd 5 _ rfl rfl rfl) rfl (hd 6 _ rfl rfl rfl) TD.sl22 TD.sz110 (by omega) (get_map hx) rfl ?_
                  exact awl_nil ⟨rfl, post_put⟩⟩⟩
              , ⟨_, rfl, fun sl hd hr ho => by
                  first | (refine r_fieldcp (hd 7 _ rfl rfl rfl) TD.f110_0 TD.sz3 rfl ?_) | (refine r_fieldb (hd 7 _ rfl rfl rfl) TD.f110_0 TD.sz3 rfl ?_)
                  exact awl_nil ⟨rfl, post_put⟩⟩⟩
              , ⟨_, rfl, fun sl hd hr ho => by
                  refine r_load1 (hd 8 _ rfl rfl rfl) TD.agg3 rfl ?_
                  exact awl_nil ⟨rfl, post_put⟩⟩⟩
              , ⟨_, rfl, fun sl hd hr ho => by
                  refine r_move (hr 0 _ rfl rfl rfl) rfl ?_
                  exact awl_nil ⟨rfl, post_put⟩⟩⟩
              , ⟨_, rfl, fun sl hd hr ho => by
                  refine r_move (hr 4 _ rfl rfl rfl) rfl ?_
                  exact awl_nil ⟨rfl, post_put⟩⟩⟩
              , ⟨_, rfl, fun sl hd hr ho => by
                  refine r_index (hd 10 _ rfl rfl rfl) rfl (hd 11 _ rfl rfl rfl) TD.sl22 TD.sz110 (by omega) (get_map hx) rfl ?_
                  exact awl_nil ⟨rfl, post_put⟩⟩⟩
              , ⟨_, rfl, fun sl hd hr ho => by
                  first | (refine r_fieldcp (hd 12 _ rfl rfl rfl) TD.f110_1 TD.sz3 rfl ?_) | (refine r_fieldb (hd 12 _ rfl rfl rfl) TD.f110_1 TD.sz3 rfl ?_)
                  exact awl_nil ⟨rfl, post_put⟩⟩⟩
              , ⟨_, rfl, fun sl hd hr ho => by
                  refine r_load1 (hd 13 _ rfl rfl rfl) TD.agg3 rfl ?_
                  exact awl_nil ⟨rfl, post_put⟩⟩⟩
              , ⟨_, rfl, fun sl hd hr ho => by
                  refine r_build (parts := [(0, .tmp 97), (1, .tmp 102)]) rfl TD.pl110 TD.zero110 (parts_cons (hd 9 _ rfl rfl rfl) (parts_cons (hd 14 _ rfl rfl rfl) parts_nil)) rfl rfl ?_
                  exact awl_nil ⟨rfl, post_put⟩⟩⟩
              , ⟨_, rfl, fun sl hd hr ho => by
                  refine r_lit 104 (parts := [(0, .tmp 103)]) rfl TD.sl22 TD.sz110 TD.zraw110 rfl rfl (parts_cons (hd 15 _ rfl rfl rfl) parts_nil) rfl rfl rfl rfl ?_
                  exact awl_nil ⟨rfl, (post_dem (ho 104 (List.mem_of_elem_eq_true rfl)))⟩⟩⟩
              , ⟨_, rfl, fun sl hd hr ho => by
                  refine r_append 88 (hd 4 _ rfl rfl rfl) (by first | exact .own _ | exact .nil) (hd 16 _ rfl rfl rfl) (by first | exact .sl _ | exact .own _ _ | exact .nil) TD.sl22 TD.sz110 (by decide) TD.by110 TD.zlen110 (by simp [chunks] <;> omega) (by simp [chunks] <;> omega) rfl ?_
                  exact awl_nil ⟨rfl, (post_dem (ho 88 (List.mem_of_elem_eq_true rfl)))⟩⟩⟩
              , ⟨_, rfl, fun sl hd hr ho => by
                  refine r_move (hr 3 _ rfl rfl rfl) rfl ?_
                  exact awl_nil ⟨rfl, post_put⟩⟩⟩
              , ⟨_, rfl, fun sl hd hr ho => by
                  refine r_move (hr 5 _ rfl rfl rfl) rfl ?_
                  exact awl_nil ⟨rfl, post_put⟩⟩⟩
              , ⟨_, rfl, fun sl hd hr ho => by
                  refine r_sliceL (hd 18 _ rfl rfl rfl) rfl (hd 19 _ rfl rfl rfl) TD.sl22 TD.sz110 (by omega) (by simp; omega) rfl ?_
                  exact awl_nil ⟨rfl, post_put⟩⟩⟩
              (by rfl) ?_
            refine r_append 88 rfl (by first | exact .own _ | exact .nil) rfl (by first | exact .sl _ | exact .own _ _ | exact .nil) TD.sl22 TD.sz110 (by decide) TD.by110 TD.zlen110 (by simp [chunks] <;> omega) (by simp [chunks] <;> omega) rfl ?_
            refine r_assign rfl rfl ?_
            refine awl_nil ?_
            refine x_block ?_
            refine x_then ?_
            refine awp_region ?_
            refine r_move rfl rfl ?_
            refine r_ari _ rfl rfl rfl (wrap_id (by first | omega | (simp; omega))) rfl ?_
            refine r_assign rfl rfl ?_
            refine awl_nil ?_
            refine x_then ?_
            refine ⟨l.length - (i + 1), ⟨111, [(0, .a (entsA l)), (3, .a (plesA (insP acc x.pl))), (4, .a (.v (.int .i64 (((i + 1) : Int)))))], []⟩, ⟨rfl, (Slots.cons rfl (by first | exact .refl _ | exact .nilOwn _ _ | exact .nilSl _ | exact .ownSl _ _ _  | exact SV.le.ownEq (by first | rfl | (rw [hins]; done) | (rw [hins]; rfl) | (rw [hins]; simp [chunks, PE, Ent.cs, Ent.pl, List.map_take, List.map_drop]; rfl)) | exact SV.le.of_eq (by first | rfl | (rw [hins]; done) | (rw [hins]; rfl) | (rw [hins]; simp [chunks, PE, Ent.cs, Ent.pl, List.map_take, List.map_drop]; rfl))) (Slots.cons rfl (by first | exact .refl _ | exact .nilOwn _ _ | exact .nilSl _ | exact .ownSl _ _ _  | exact SV.le.ownEq (by first | rfl | (rw [hins]; done) | (rw [hins]; rfl) | (rw [hins]; simp [chunks, PE, Ent.cs, Ent.pl, List.map_take, List.map_drop]; rfl)) | exact SV.le.of_eq (by first | rfl | (rw [hins]; done) | (rw [hins]; rfl) | (rw [hins]; simp [chunks, PE, Ent.cs, Ent.pl, List.map_take, List.map_drop]; rfl))) (Slots.cons rfl (by first | exact .refl _ | exact .nilOwn _ _ | exact .nilSl _ | exact .ownSl _ _ _  | exact SV.le.ownEq (by first | rfl | (rw [hins]; done) | (rw [hins]; rfl) | (rw [hins]; simp [chunks, PE, Ent.cs, Ent.pl, List.map_take, List.map_drop]; rfl)) | exact SV.le.of_eq (by first | rfl | (rw [hins]; done) | (rw [hins]; rfl) | (rw [hins]; simp [chunks, PE, Ent.cs, Ent.pl, List.map_take, List.map_drop]; rfl))) Slots.nil))), (by first | exact List.Sublist.refl _ | exact .cons_cons _ (.cons _ (.refl _)) | exact List.nil_sublist _ | exact .cons _ (.refl _) | exact .cons _ (.cons _ (.refl _)) | exact .cons _ (.cons _ (.cons _ (.refl _))) | exact .cons _ (.cons _ (.cons _ (.cons _ (.refl _)))) | exact .cons_cons _ (List.nil_sublist _))⟩, (by omega), ⟨i + 1, insP acc x.pl, rfl, rfl, (by omega), (insAll_step hx hacc), (by have := insP_len acc x.pl; omega)⟩⟩
        ·
          have h2 : ¬ y.1 = x.vol := by simpa using hg75
          have hins : insP acc x.pl = acc.take j ++ x.pl :: acc.drop j := by rw [insP_at ha hj hs, hy]; simp only [show ¬ y = x.pl from fun e => h2 (congrArg Prod.fst e), if_false]
          refine awp_drawS [58, 59, 60, 61, 62, 63, 64, 65, 66, 67, 68, 69, 70, 71, 72, 73, 74, 75, 76, 77, 78, 79, 80, 81, 82, 83, 84, 85] [_, _, _, _, _, _, _, _, _, _, _, _, _, _, _, _, _, _, _, _, _, _, _, _, _, _, _, _] [] [] TD.mixed rfl rfl rfl ⟨⟨⟨⟨⟨⟨⟨⟨⟨⟨⟨⟨⟨⟨⟨⟨⟨⟨⟨⟨⟨⟨⟨⟨⟨⟨⟨⟨trivial
            , ⟨_, rfl, fun sl hd hr ho => by
                refine r_move (hr 5 _ rfl rfl rfl) rfl ?_
                exact awl_nil ⟨rfl, post_put⟩⟩⟩
            , ⟨_, rfl, fun sl hd hr ho => by
                refine r_move (hr 3 _ rfl rfl rfl) rfl ?_
                exact awl_nil ⟨rfl, post_put⟩⟩⟩
            , ⟨_, rfl, fun sl hd hr ho => by
                first | (refine r_lenS (hd 1 _ rfl rfl rfl) rfl TD.sl22 rfl ?_) | (refine r_lenNil (hd 1 _ rfl rfl rfl) TD.sl22 rfl ?_)
                exact awl_nil ⟨rfl, post_put⟩⟩⟩
            , ⟨_, rfl, fun sl hd hr ho => by
                refine r_cmp (hd 0 _ rfl rfl rfl) (hd 2 _ rfl rfl rfl) rfl rfl ?_
                exact awl_nil ⟨rfl, post_put⟩⟩⟩
            , ⟨_, rfl, fun sl hd hr ho => by
                refine r_move (hd 3 _ rfl rfl rfl) rfl ?_
                exact awl_nil ⟨rfl, post_put⟩⟩⟩
            , ⟨_, rfl, fun sl hd hr ho => by
                refine g_run rfl (hd 4 _ rfl rfl rfl) hg62 ?_
                refine r_move (hr 3 _ rfl rfl rfl) rfl ?_
                exact awl_nil ⟨rfl, post_put⟩⟩⟩
            , ⟨_, rfl, fun sl hd hr ho => by
                refine g_run rfl (hd 4 _ rfl rfl rfl) hg62 ?_
                refine r_move (hr 5 _ rfl rfl rfl) rfl ?_
                exact awl_nil ⟨rfl, post_put⟩⟩⟩
            , ⟨_, rfl, fun sl hd hr ho => by
                refine g_run rfl (hd 4 _ rfl rfl rfl) hg62 ?_
                refine r_index (hd 5 _ rfl rfl rfl) rfl (hd 6 _ rfl rfl rfl) TD.sl22 TD.sz110 (by omega) (get_map hy) rfl ?_
                exact awl_nil ⟨rfl, post_put⟩⟩⟩
            , ⟨_, rfl, fun sl hd hr ho => by
                refine g_run rfl (hd 4 _ rfl rfl rfl) hg62 ?_
                first | (refine r_fieldcp (hd 7 _ rfl rfl rfl) TD.f110_0 TD.sz3 rfl ?_) | (refine r_fieldb (hd 7 _ rfl rfl rfl) TD.f110_0 TD.sz3 rfl ?_)
                exact awl_nil ⟨rfl, post_put⟩⟩⟩
            , ⟨_, rfl, fun sl hd hr ho => by
                refine g_run rfl (hd 4 _ rfl rfl rfl) hg62 ?_
                refine r_load1 (hd 8 _ rfl rfl rfl) TD.agg3 rfl ?_
                exact awl_nil ⟨rfl, post_put⟩⟩⟩
            , ⟨_, rfl, fun sl hd hr ho => by
                refine g_run rfl (hd 4 _ rfl rfl rfl) hg62 ?_
                refine r_move (hr 0 _ rfl rfl rfl) rfl ?_
                exact awl_nil ⟨rfl, post_put⟩⟩⟩
            , ⟨_, rfl, fun sl hd hr ho => by
                refine g_run rfl (hd 4 _ rfl rfl rfl) hg62 ?_
                refine r_move (hr 4 _ rfl rfl rfl) rfl ?_
                exact awl_nil ⟨rfl, post_put⟩⟩⟩
            , ⟨_, rfl, fun sl hd hr ho => by
                refine g_run rfl (hd 4 _ rfl rfl rfl) hg62 ?_
                refine r_index (hd 10 _ rfl rfl rfl) rfl (hd 11 _ rfl rfl rfl) TD.sl22 TD.sz110 (by omega) (get_map hx) rfl ?_
                exact awl_nil ⟨rfl, post_put⟩⟩⟩
            , ⟨_, rfl, fun sl hd hr ho => by
                refine g_run rfl (hd 4 _ rfl rfl rfl) hg62 ?_
                first | (refine r_fieldcp (hd 12 _ rfl rfl rfl) TD.f110_0 TD.sz3 rfl ?_) | (refine r_fieldb (hd 12 _ rfl rfl rfl) TD.f110_0 TD.sz3 rfl ?_)
                exact awl_nil ⟨rfl, post_put⟩⟩⟩
            , ⟨_, rfl, fun sl hd hr ho => by
                refine g_run rfl (hd 4 _ rfl rfl rfl) hg62 ?_
                refine r_load1 (hd 13 _ rfl rfl rfl) TD.agg3 rfl ?_
                exact awl_nil ⟨rfl, post_put⟩⟩⟩
            , ⟨_, rfl, fun sl hd hr ho => by
                refine g_run rfl (hd 4 _ rfl rfl rfl) hg62 ?_
                refine r_cmp (hd 9 _ rfl rfl rfl) (hd 14 _ rfl rfl rfl) rfl rfl ?_
                exact awl_nil ⟨rfl, post_put⟩⟩⟩
            , ⟨_, rfl, fun sl hd hr ho => by
                refine r_pickT (hd 4 _ rfl rfl rfl) hg62 (hd 15 _ rfl rfl rfl) rfl ?_
                exact awl_nil ⟨rfl, post_put⟩⟩⟩
            , ⟨_, rfl, fun sl hd hr ho => by
                refine r_move (hd 16 _ rfl rfl rfl) rfl ?_
                exact awl_nil ⟨rfl, post_put⟩⟩⟩
            , ⟨_, rfl, fun sl hd hr ho => by
                refine g_skip rfl (hd 17 _ rfl rfl rfl) hg75 rfl ?_
                exact awl_nil ⟨rfl, post_put⟩⟩⟩
            , ⟨_, rfl, fun sl hd hr ho => by
                refine g_skip rfl (hd 17 _ rfl rfl rfl) hg75 rfl ?_
                exact awl_nil ⟨rfl, post_put⟩⟩⟩
            , ⟨_, rfl, fun sl hd hr ho => by
                refine g_skip rfl (hd 17 _ rfl rfl rfl) hg75 rfl ?_
                exact awl_nil ⟨rfl, post_put⟩⟩⟩
            , ⟨_, rfl, fun sl hd hr ho => by
                refine g_skip rfl (hd 17 _ rfl rfl rfl) hg75 rfl ?_
                exact awl_nil ⟨rfl, post_put⟩⟩⟩
            , ⟨_, rfl, fun sl hd hr ho => by
                refine g_skip rfl (hd 17 _ rfl rfl rfl) hg75 rfl ?_
                exact awl_nil ⟨rfl, post_put⟩⟩⟩
            , ⟨_, rfl, fun sl hd hr ho => by
                refine g_skip rfl (hd 17 _ rfl rfl rfl) hg75 rfl ?_
                exact awl_nil ⟨rfl, post_put⟩⟩⟩
            , ⟨_, rfl, fun sl hd hr ho => by
                refine g_skip rfl (hd 17 _ rfl rfl rfl) hg75 rfl ?_
                exact awl_nil ⟨rfl, post_put⟩⟩⟩
            , ⟨_, rfl, fun sl hd hr ho => by
                refine g_skip rfl (hd 17 _ rfl rfl rfl) hg75 rfl ?_
                exact awl_nil ⟨rfl, post_put⟩⟩⟩
            , ⟨_, rfl, fun sl hd hr ho => by
                refine g_skip rfl (hd 17 _ rfl rfl rfl) hg75 rfl ?_
                exact awl_nil ⟨rfl, post_put⟩⟩⟩
            , ⟨_, rfl, fun sl hd hr ho => by
                refine g_skip rfl (hd 17 _ rfl rfl rfl) hg75 rfl ?_
                exact awl_nil ⟨rfl, post_put⟩⟩⟩
            (by rfl) ?_
          refine g_skip rfl rfl hg75 rfl ?_
          refine r_pickF rfl hg75 rfl rfl ?_
          refine awl_nil ?_
          refine x_then ?_
          refine awp_condF rfl ?_
          refine awp_skip ?_
          refine x_then ?_
          refine awp_drawS [88, 89, 90, 91, 92, 93, 94, 95, 96, 97, 98, 99, 100, 101, 102, 103, 104, 105, 106, 107, 108] [_, _, _, _, _, _, _, _, _, _, _, _, _, _, _, _, _, _, _, _, _] [[], [], [], [], [88], [], [], [], [], [], [], [], [], [], [], [], [], [88, 92]] [(0, 88), (4, 88), (16, 104), (17, 88)] TD.mixed rfl rfl rfl ⟨⟨⟨⟨⟨⟨⟨⟨⟨⟨⟨⟨⟨⟨⟨⟨⟨⟨⟨⟨⟨trivial
            , ⟨_, rfl, fun sl hd hr ho => by
                refine r_lit 88 (parts := []) rfl TD.sl22 TD.sz110 TD.zraw110 rfl rfl parts_nil rfl rfl rfl rfl ?_
                exact awl_nil ⟨rfl, (post_dem (ho 88 (List.mem_of_elem_eq_true rfl)))⟩⟩⟩
            , ⟨_, rfl, fun sl hd hr ho => by
                refine r_move (hr 3 _ rfl rfl rfl) rfl ?_
                exact awl_nil ⟨rfl, post_put⟩⟩⟩
            , ⟨_, rfl, fun sl hd hr ho => by
                refine r_move (hr 5 _ rfl rfl rfl) rfl ?_
                exact awl_nil ⟨rfl, post_put⟩⟩⟩
            , ⟨_, rfl, fun sl hd hr ho => by
                refine r_sliceH (hd 1 _ rfl rfl rfl) rfl (hd 2 _ rfl rfl rfl) TD.sl22 TD.sz110 (by omega) (by simp; omega) rfl ?_
                exact awl_nil ⟨rfl, post_put⟩⟩⟩
            , ⟨_, rfl, fun sl hd hr ho => by
                refine r_append 88 (hd 0 _ rfl rfl rfl) (by first | exact .own _ | exact .nil) (hd 3 _ rfl rfl rfl) (by first | exact .sl _ | exact .own _ _ | exact .nil) TD.sl22 TD.sz110 (by decide) TD.by110 TD.zlen110 (by simp [chunks] <;> omega) (by simp [chunks] <;> omega) rfl ?_
                exact awl_nil ⟨rfl, (post_dem (ho 88 (List.mem_of_elem_eq_true rfl)))⟩⟩⟩
            , ⟨_, rfl, fun sl hd hr ho => by
                refine r_move (hr 0 _ rfl rfl rfl) rfl ?_
                exact awl_nil ⟨rfl, post_put⟩⟩⟩
            , ⟨_, rfl, fun sl hd hr ho => by
                refine r_move (hr 4 _ rfl rfl rfl) rfl ?_
                exact awl_nil ⟨rfl, post_put⟩⟩⟩
            , ⟨_, rfl, fun sl hd hr ho => by
                refine r_index (hd 5 _ rfl rfl rfl) rfl (hd 6 _ rfl rfl rfl) TD.sl22 TD.sz110 (by omega) (get_map hx) rfl ?_
                exact awl_nil ⟨rfl, post_put⟩⟩⟩
            , ⟨_, rfl, fun sl hd hr ho => by
                first | (refine r_fieldcp (hd 7 _ rfl rfl rfl) TD.f110_0 TD.sz3 rfl ?_) | (refine r_fieldb (hd 7 _ rfl rfl rfl) TD.f110_0 TD.sz3 rfl ?_)
                exact awl_nil ⟨rfl, post_put⟩⟩⟩
            , ⟨_, rfl, fun sl hd hr ho => by
                refine r_load1 (hd 8 _ rfl rfl rfl) TD.agg3 rfl ?_
                exact awl_nil ⟨rfl, post_put⟩⟩⟩
            , ⟨_, rfl, fun sl hd hr ho => by
                refine r_move (hr 0 _ rfl rfl rfl) rfl ?_
                exact awl_nil ⟨rfl, post_put⟩⟩⟩
            , ⟨_, rfl, fun sl hd hr ho => by
                refine r_move (hr 4 _ rfl rfl rfl) rfl ?_
                exact awl_nil ⟨rfl, post_put⟩⟩⟩
            , ⟨_, rfl, fun sl hd hr ho => by
                refine r_index (hd 10 _ rfl rfl rfl) rfl (hd 11 _ rfl rfl rfl) TD.sl22 TD.sz110 (by omega) (get_map hx) rfl ?_
                exact awl_nil ⟨rfl, post_put⟩⟩⟩
            , ⟨_, rfl, fun sl hd hr ho => by
                first | (refine r_fieldcp (hd 12 _ rfl rfl rfl) TD.f110_1 TD.sz3 rfl ?_) | (refine r_fieldb (hd 12 _ rfl rfl rfl) TD.f110_1 TD.sz3 rfl ?_)
                exact awl_nil ⟨rfl, post_put⟩⟩⟩
            , ⟨_, rfl, fun sl hd hr ho => by
                refine r_load1 (hd 13 _ rfl rfl rfl) TD.agg3 rfl ?_
                exact awl_nil ⟨rfl, post_put⟩⟩⟩
            , ⟨_, rfl, fun sl hd hr ho => by
                refine r_build (parts := [(0, .tmp 97), (1, .tmp 102)]) rfl TD.pl110 TD.zero110 (parts_cons (hd 9 _ rfl rfl rfl) (parts_cons (hd 14 _ rfl rfl rfl) parts_nil)) rfl rfl ?_
                exact awl_nil ⟨rfl, post_put⟩⟩⟩
            , ⟨_, rfl, fun sl hd hr ho => by
                refine r_lit 104 (parts := [(0, .tmp 103)]) rfl TD.sl22 TD.sz110 TD.zraw110 rfl rfl (parts_cons (hd 15 _ rfl rfl rfl) parts_nil) rfl rfl rfl rfl ?_
                exact awl_nil ⟨rfl, (post_dem (ho 104 (List.mem_of_elem_eq_true rfl)))⟩⟩⟩
            , ⟨_, rfl, fun sl hd hr ho => by
                refine r_append 88 (hd 4 _ rfl rfl rfl) (by first | exact .own _ | exact .nil) (hd 16 _ rfl rfl rfl) (by first | exact .sl _ | exact .own _ _ | exact .nil) TD.sl22 TD.sz110 (by decide) TD.by110 TD.zlen110 (by simp [chunks] <;> omega) (by simp [chunks] <;> omega) rfl ?_
                exact awl_nil ⟨rfl, (post_dem (ho 88 (List.mem_of_elem_eq_true rfl)))⟩⟩⟩
            , ⟨_, rfl, fun sl hd hr ho => by
                refine r_move (hr 3 _ rfl rfl rfl) rfl ?_
                exact awl_nil ⟨rfl, post_put⟩⟩⟩
            , ⟨_, rfl, fun sl hd hr ho => by
                refine r_move (hr 5 _ rfl rfl rfl) rfl ?_
                exact awl_nil ⟨rfl, post_put⟩⟩⟩
            , ⟨_, rfl, fun sl hd hr ho => by
                refine r_sliceL (hd 18 _ rfl rfl rfl) rfl (hd 19 _ rfl rfl rfl) TD.sl22 TD.sz110 (by omega) (by simp; omega) rfl ?_
                exact awl_nil ⟨rfl, post_put⟩⟩⟩
            (by rfl) ?_
          refine r_append 88 rfl (by first | exact .own _ | exact .nil) rfl (by first | exact .sl _ | exact .own _ _ | exact .nil) TD.sl22 TD.sz110 (by decide) TD.by110 TD.zlen110 (by simp [chunks] <;> omega) (by simp [chunks] <;> omega) rfl ?_
          refine r_assign rfl rfl ?_
          refine awl_nil ?_
          refine x_block ?_
          refine x_then ?_
          refine awp_region ?_
          refine r_move rfl rfl ?_
          refine r_ari _ rfl rfl rfl (wrap_id (by first | omega | (simp; omega))) rfl ?_
          refine r_assign rfl rfl ?_
          refine awl_nil ?_
          refine x_then ?_
          refine ⟨l.length - (i + 1), ⟨111, [(0, .a (entsA l)), (3, .a (plesA (insP acc x.pl))), (4, .a (.v (.int .i64 (((i + 1) : Int)))))], []⟩, ⟨rfl, (Slots.cons rfl (by first | exact .refl _ | exact .nilOwn _ _ | exact .nilSl _ | exact .ownSl _ _ _  | exact SV.le.ownEq (by first | rfl | (rw [hins]; done) | (rw [hins]; rfl) | (rw [hins]; simp [chunks, PE, Ent.cs, Ent.pl, List.map_take, List.map_drop]; rfl)) | exact SV.le.of_eq (by first | rfl | (rw [hins]; done) | (rw [hins]; rfl) | (rw [hins]; simp [chunks, PE, Ent.cs, Ent.pl, List.map_take, List.map_drop]; rfl))) (Slots.cons rfl (by first | exact .refl _ | exact .nilOwn _ _ | exact .nilSl _ | exact .ownSl _ _ _  | exact SV.le.ownEq (by first | rfl | (rw [hins]; done) | (rw [hins]; rfl) | (rw [hins]; simp [chunks, PE, Ent.cs, Ent.pl, List.map_take, List.map_drop]; rfl)) | exact SV.le.of_eq (by first | rfl | (rw [hins]; done) | (rw [hins]; rfl) | (rw [hins]; simp [chunks, PE, Ent.cs, Ent.pl, List.map_take, List.map_drop]; rfl))) (Slots.cons rfl (by first | exact .refl _ | exact .nilOwn _ _ | exact .nilSl _ | exact .ownSl _ _ _  | exact SV.le.ownEq (by first | rfl | (rw [hins]; done) | (rw [hins]; rfl) | (rw [hins]; simp [chunks, PE, Ent.cs, Ent.pl, List.map_take, List.map_drop]; rfl)) | exact SV.le.of_eq (by first | rfl | (rw [hins]; done) | (rw [hins]; rfl) | (rw [hins]; simp [chunks, PE, Ent.cs, Ent.pl, List.map_take, List.map_drop]; rfl))) Slots.nil))), (by first | exact List.Sublist.refl _ | exact .cons_cons _ (.cons _ (.refl _)) | exact List.nil_sublist _ | exact .cons _ (.refl _) | exact .cons _ (.cons _ (.refl _)) | exact .cons _ (.cons _ (.cons _ (.refl _))) | exact .cons _ (.cons _ (.cons _ (.cons _ (.refl _)))) | exact .cons_cons _ (List.nil_sublist _))⟩, (by omega), ⟨i + 1, insP acc x.pl, rfl, rfl, (by omega), (insAll_step hx hacc), (by have := insP_len acc x.pl; omega)⟩⟩
      ·
        have hgej : acc.length ≤ j := by have := of_decide_eq_false hg62; simp at this; omega
        have hins : insP acc x.pl = acc.take j ++ x.pl :: acc.drop j := by rw [insP_at ha hj hs, List.getElem?_eq_none (by omega), List.take_of_length_le (by omega), List.drop_eq_nil_of_le (by omega)]
        refine awp_drawS [58, 59, 60, 61, 62, 63, 64, 65, 66, 67, 68, 69, 70, 71, 72, 73, 74, 75, 76, 77, 78, 79, 80, 81, 82, 83, 84, 85] [_, _, _, _, _, _, _, _, _, _, _, _, _, _, _, _, _, _, _, _, _, _, _, _, _, _, _, _] [] [] TD.mixed rfl rfl rfl ⟨⟨⟨⟨⟨⟨⟨⟨⟨⟨⟨⟨⟨⟨⟨⟨⟨⟨⟨⟨⟨⟨⟨⟨⟨⟨⟨⟨trivial
          , ⟨_, rfl, fun sl hd hr ho => by
              refine r_move (hr 5 _ rfl rfl rfl) rfl ?_
              exact awl_nil ⟨rfl, post_put⟩⟩⟩
          , ⟨_, rfl, fun sl hd hr ho => by
              refine r_move (hr 3 _ rfl rfl rfl) rfl ?_
              exact awl_nil ⟨rfl, post_put⟩⟩⟩
          , ⟨_, rfl, fun sl hd hr ho => by
              first | (refine r_lenS (hd 1 _ rfl rfl rfl) rfl TD.sl22 rfl ?_) | (refine r_lenNil (hd 1 _ rfl rfl rfl) TD.sl22 rfl ?_)
              exact awl_nil ⟨rfl, post_put⟩⟩⟩
          , ⟨_, rfl, fun sl hd hr ho => by
              refine r_cmp (hd 0 _ rfl rfl rfl) (hd 2 _ rfl rfl rfl) rfl rfl ?_
              exact awl_nil ⟨rfl, post_put⟩⟩⟩
          , ⟨_, rfl, fun sl hd hr ho => by
              refine r_move (hd 3 _ rfl rfl rfl) rfl ?_
              exact awl_nil ⟨rfl, post_put⟩⟩⟩
          , ⟨_, rfl, fun sl hd hr ho => by
              refine g_skip rfl (hd 4 _ rfl rfl rfl) hg62 rfl ?_
              exact awl_nil ⟨rfl, post_put⟩⟩⟩
          , ⟨_, rfl, fun sl hd hr ho => by
              refine g_skip rfl (hd 4 _ rfl rfl rfl) hg62 rfl ?_
              exact awl_nil ⟨rfl, post_put⟩⟩⟩
          , ⟨_, rfl, fun sl hd hr ho => by
              refine g_skip rfl (hd 4 _ rfl rfl rfl) hg62 rfl ?_
              exact awl_nil ⟨rfl, post_put⟩⟩⟩
          , ⟨_, rfl, fun sl hd hr ho => by
              refine g_skip rfl (hd 4 _ rfl rfl rfl) hg62 rfl ?_
              exact awl_nil ⟨rfl, post_put⟩⟩⟩
          , ⟨_, rfl, fun sl hd hr ho => by
              refine g_skip rfl (hd 4 _ rfl rfl rfl) hg62 rfl ?_
              exact awl_nil ⟨rfl, post_put⟩⟩⟩
          , ⟨_, rfl, fun sl hd hr ho => by
              refine g_skip rfl (hd 4 _ rfl rfl rfl) hg62 rfl ?_
              exact awl_nil ⟨rfl, post_put⟩⟩⟩
          , ⟨_, rfl, fun sl hd hr ho => by
              refine g_skip rfl (hd 4 _ rfl rfl rfl) hg62 rfl ?_
              exact awl_nil ⟨rfl, post_put⟩⟩⟩
          , ⟨_, rfl, fun sl hd hr ho => by
              refine g_skip rfl (hd 4 _ rfl rfl rfl) hg62 rfl ?_
              exact awl_nil ⟨rfl, post_put⟩⟩⟩
          , ⟨_, rfl, fun sl hd hr ho => by
              refine g_skip rfl (hd 4 _ rfl rfl rfl) hg62 rfl ?_
              exact awl_nil ⟨rfl, post_put⟩⟩⟩
          , ⟨_, rfl, fun sl hd hr ho => by
              refine g_skip rfl (hd 4 _ rfl rfl rfl) hg62 rfl ?_
              exact awl_nil ⟨rfl, post_put⟩⟩⟩
          , ⟨_, rfl, fun sl hd hr ho => by
              refine g_skip rfl (hd 4 _ rfl rfl rfl) hg62 rfl ?_
              exact awl_nil ⟨rfl, post_put⟩⟩⟩
          , ⟨_, rfl, fun sl hd hr ho => by
              refine r_pickF (hd 4 _ rfl rfl rfl) hg62 rfl rfl ?_
              exact awl_nil ⟨rfl, post_put⟩⟩⟩
          , ⟨_, rfl, fun sl hd hr ho => by
              refine r_move (hd 16 _ rfl rfl rfl) rfl ?_
              exact awl_nil ⟨rfl, post_put⟩⟩⟩
          , ⟨_, rfl, fun sl hd hr ho => by
              refine g_skip rfl (hd 17 _ rfl rfl rfl) rfl rfl ?_
              exact awl_nil ⟨rfl, post_put⟩⟩⟩
          , ⟨_, rfl, fun sl hd hr ho => by
              refine g_skip rfl (hd 17 _ rfl rfl rfl) rfl rfl ?_
              exact awl_nil ⟨rfl, post_put⟩⟩⟩
          , ⟨_, rfl, fun sl hd hr ho => by
              refine g_skip rfl (hd 17 _ rfl rfl rfl) rfl rfl ?_
              exact awl_nil ⟨rfl, post_put⟩⟩⟩
          , ⟨_, rfl, fun sl hd hr ho => by
              refine g_skip rfl (hd 17 _ rfl rfl rfl) rfl rfl ?_
              exact awl_nil ⟨rfl, post_put⟩⟩⟩
          , ⟨_, rfl, fun sl hd hr ho => by
              refine g_skip rfl (hd 17 _ rfl rfl rfl) rfl rfl ?_
              exact awl_nil ⟨rfl, post_put⟩⟩⟩
          , ⟨_, rfl, fun sl hd hr ho => by
              refine g_skip rfl (hd 17 _ rfl rfl rfl) rfl rfl ?_
              exact awl_nil ⟨rfl, post_put⟩⟩⟩
          , ⟨_, rfl, fun sl hd hr ho => by
              refine g_skip rfl (hd 17 _ rfl rfl rfl) rfl rfl ?_
              exact awl_nil ⟨rfl, post_put⟩⟩⟩
          , ⟨_, rfl, fun sl hd hr ho => by
              refine g_skip rfl (hd 17 _ rfl rfl rfl) rfl rfl ?_
              exact awl_nil ⟨rfl, post_put⟩⟩⟩
          , ⟨_, rfl, fun sl hd hr ho => by
              refine g_skip rfl (hd 17 _ rfl rfl rfl) rfl rfl ?_
              exact awl_nil ⟨rfl, post_put⟩⟩⟩
          , ⟨_, rfl, fun sl hd hr ho => by
              refine g_skip rfl (hd 17 _ rfl rfl rfl) rfl rfl ?_
              exact awl_nil ⟨rfl, post_put⟩⟩⟩
          (by rfl) ?_
        refine g_skip rfl rfl rfl rfl ?_
        refine r_pickF rfl rfl rfl rfl ?_
        refine awl_nil ?_
        refine x_then ?_
        refine awp_condF rfl ?_
        refine awp_skip ?_
        refine x_then ?_
        refine awp_drawS [88, 89, 90, 91, 92, 93, 94, 95, 96, 97, 98, 99, 100, 101, 102, 103, 104, 105, 106, 107, 108] [_, _, _, _, _, _, _, _, _, _, _, _, _, _, _, _, _, _, _, _, _] [[], [], [], [], [88], [], [], [], [], [], [], [], [], [], [], [], [], [88, 92]] [(0, 88), (4, 88), (16, 104), (17, 88)] TD.mixed rfl rfl rfl ⟨⟨⟨⟨⟨⟨⟨⟨⟨⟨⟨⟨⟨⟨⟨⟨⟨⟨⟨⟨⟨trivial
          , ⟨_, rfl, fun sl hd hr ho => by
              refine r_lit 88 (parts := []) rfl TD.sl22 TD.sz110 TD.zraw110 rfl rfl parts_nil rfl rfl rfl rfl ?_
              exact awl_nil ⟨rfl, (post_dem (ho 88 (List.mem_of_elem_eq_true rfl)))⟩⟩⟩
          , ⟨_, rfl, fun sl hd hr ho => by
              refine r_move (hr 3 _ rfl rfl rfl) rfl ?_
              exact awl_nil ⟨rfl, post_put⟩⟩⟩
          , ⟨_, rfl, fun sl hd hr ho => by
              refine r_move (hr 5 _ rfl rfl rfl) rfl ?_
              exact awl_nil ⟨rfl, post_put⟩⟩⟩
          , ⟨_, rfl, fun sl hd hr ho => by
              refine r_sliceH (hd 1 _ rfl rfl rfl) rfl (hd 2 _ rfl rfl rfl) TD.sl22 TD.sz110 (by omega) (by simp; omega) rfl ?_
              exact awl_nil ⟨rfl, post_put⟩⟩⟩
          , ⟨_, rfl, fun sl hd hr ho => by
              refine r_append 88 (hd 0 _ rfl rfl rfl) (by first | exact .own _ | exact .nil) (hd 3 _ rfl rfl rfl) (by first | exact .sl _ | exact .own _ _ | exact .nil) TD.sl22 TD.sz110 (by decide) TD.by110 TD.zlen110 (by simp [chunks] <;> omega) (by simp [chunks] <;> omega) rfl ?_
              exact awl_nil ⟨rfl, (post_dem (ho 88 (List.mem_of_elem_eq_true rfl)))⟩⟩⟩
          , ⟨_, rfl, fun sl hd hr ho => by
              refine r_move (hr 0 _ rfl rfl rfl) rfl ?_
              exact awl_nil ⟨rfl, post_put⟩⟩⟩
          , ⟨_, rfl, fun sl hd hr ho => by
              refine r_move (hr 4 _ rfl rfl rfl) rfl ?_
              exact awl_nil ⟨rfl, post_put⟩⟩⟩
          , ⟨_, rfl, fun sl hd hr ho => by
              refine r_index (hd 5 _ rfl rfl rfl) rfl (hd 6 _ rfl rfl rfl) TD.sl22 TD.sz110 (by omega) (get_map hx) rfl ?_
              exact awl_nil ⟨rfl, post_put⟩⟩⟩
          , ⟨_, rfl, fun sl hd hr ho => by
              first | (refine r_fieldcp (hd 7 _ rfl rfl rfl) TD.f110_0 TD.sz3 rfl ?_) | (refine r_fieldb (hd 7 _ rfl rfl rfl) TD.f110_0 TD.sz3 rfl ?_)
              exact awl_nil ⟨rfl, post_put⟩⟩⟩
          , ⟨_, rfl, fun sl hd hr ho => by
              refine r_load1 (hd 8 _ rfl rfl rfl) TD.agg3 rfl ?_
              exact awl_nil ⟨rfl, post_put⟩⟩⟩
          , ⟨_, rfl, fun sl hd hr ho => by
              refine r_move (hr 0 _ rfl rfl rfl) rfl ?_
              exact awl_nil ⟨rfl, post_put⟩⟩⟩
          , ⟨_, rfl, fun sl hd hr ho => by
              refine r_move (hr 4 _ rfl rfl rfl) rfl ?_
              exact awl_nil ⟨rfl, post_put⟩⟩⟩
          , ⟨_, rfl, fun sl hd hr ho => by
              refine r_index (hd 10 _ rfl rfl rfl) rfl (hd 11 _ rfl rfl rfl) TD.sl22 TD.sz110 (by omega) (get_map hx) rfl ?_
              exact awl_nil ⟨rfl, post_put⟩⟩⟩
          , ⟨_, rfl, fun sl hd hr ho => by
              first | (refine r_fieldcp (hd 12 _ rfl rfl rfl) TD.f110_1 TD.sz3 rfl ?_) | (refine r_fieldb (hd 12 _ rfl rfl rfl) TD.f110_1 TD.sz3 rfl ?_)
              exact awl_nil ⟨rfl, post_put⟩⟩⟩
          , ⟨_, rfl, fun sl hd hr ho => by
              refine r_load1 (hd 13 _ rfl rfl rfl) TD.agg3 rfl ?_
              exact awl_nil ⟨rfl, post_put⟩⟩⟩
          , ⟨_, rfl, fun sl hd hr ho => by
              refine r_build (parts := [(0, .tmp 97), (1, .tmp 102)]) rfl TD.pl110 TD.zero110 (parts_cons (hd 9 _ rfl rfl rfl) (parts_cons (hd 14 _ rfl rfl rfl) parts_nil)) rfl rfl ?_
              exact awl_nil ⟨rfl, post_put⟩⟩⟩
          , ⟨_, rfl, fun sl hd hr ho => by
              refine r_lit 104 (parts := [(0, .tmp 103)]) rfl TD.sl22 TD.sz110 TD.zraw110 rfl rfl (parts_cons (hd 15 _ rfl rfl rfl) parts_nil) rfl rfl rfl rfl ?_
              exact awl_nil ⟨rfl, (post_dem (ho 104 (List.mem_of_elem_eq_true rfl)))⟩⟩⟩
          , ⟨_, rfl, fun sl hd hr ho => by
              refine r_append 88 (hd 4 _ rfl rfl rfl) (by first | exact .own _ | exact .nil) (hd 16 _ rfl rfl rfl) (by first | exact .sl _ | exact .own _ _ | exact .nil) TD.sl22 TD.sz110 (by decide) TD.by110 TD.zlen110 (by simp [chunks] <;> omega) (by simp [chunks] <;> omega) rfl ?_
              exact awl_nil ⟨rfl, (post_dem (ho 88 (List.mem_of_elem_eq_true rfl)))⟩⟩⟩
          , ⟨_, rfl, fun sl hd hr ho => by
              refine r_move (hr 3 _ rfl rfl rfl) rfl ?_
              exact awl_nil ⟨rfl, post_put⟩⟩⟩
          , ⟨_, rfl, fun sl hd hr ho => by
              refine r_move (hr 5 _ rfl rfl rfl) rfl ?_
              exact awl_nil ⟨rfl, post_put⟩⟩⟩
          , ⟨_, rfl, fun sl hd hr ho => by
              refine r_sliceL (hd 18 _ rfl rfl rfl) rfl (hd 19 _ rfl rfl rfl) TD.sl22 TD.sz110 (by omega) (by simp; omega) rfl ?_
              exact awl_nil ⟨rfl, post_put⟩⟩⟩
          (by rfl) ?_
        refine r_append 88 rfl (by first | exact .own _ | exact .nil) rfl (by first | exact .sl _ | exact .own _ _ | exact .nil) TD.sl22 TD.sz110 (by decide) TD.by110 TD.zlen110 (by simp [chunks] <;> omega) (by simp [chunks] <;> omega) rfl ?_
        refine r_assign rfl rfl ?_
        refine awl_nil ?_
        refine x_block ?_
        refine x_then ?_
        refine awp_region ?_
        refine r_move rfl rfl ?_
        refine r_ari _ rfl rfl rfl (wrap_id (by first | omega | (simp; omega))) rfl ?_
        refine r_assign rfl rfl ?_
        refine awl_nil ?_
        refine x_then ?_
        refine ⟨l.length - (i + 1), ⟨111, [(0, .a (entsA l)), (3, .a (plesA (insP acc x.pl))), (4, .a (.v (.int .i64 (((i + 1) : Int)))))], []⟩, ⟨rfl, (Slots.cons rfl (by first | exact .refl _ | exact .nilOwn _ _ | exact .nilSl _ | exact .ownSl _ _ _  | exact SV.le.ownEq (by first | rfl | (rw [hins]; done) | (rw [hins]; rfl) | (rw [hins]; simp [chunks, PE, Ent.cs, Ent.pl, List.map_take, List.map_drop]; rfl)) | exact SV.le.of_eq (by first | rfl | (rw [hins]; done) | (rw [hins]; rfl) | (rw [hins]; simp [chunks, PE, Ent.cs, Ent.pl, List.map_take, List.map_drop]; rfl))) (Slots.cons rfl (by first | exact .refl _ | exact .nilOwn _ _ | exact .nilSl _ | exact .ownSl _ _ _  | exact SV.le.ownEq (by first | rfl | (rw [hins]; done) | (rw [hins]; rfl) | (rw [hins]; simp [chunks, PE, Ent.cs, Ent.pl, List.map_take, List.map_drop]; rfl)) | exact SV.le.of_eq (by first | rfl | (rw [hins]; done) | (rw [hins]; rfl) | (rw [hins]; simp [chunks, PE, Ent.cs, Ent.pl, List.map_take, List.map_drop]; rfl))) (Slots.cons rfl (by first | exact .refl _ | exact .nilOwn _ _ | exact .nilSl _ | exact .ownSl _ _ _  | exact SV.le.ownEq (by first | rfl | (rw [hins]; done) | (rw [hins]; rfl) | (rw [hins]; simp [chunks, PE, Ent.cs, Ent.pl, List.map_take, List.map_drop]; rfl)) | exact SV.le.of_eq (by first | rfl | (rw [hins]; done) | (rw [hins]; rfl) | (rw [hins]; simp [chunks, PE, Ent.cs, Ent.pl, List.map_take, List.map_drop]; rfl))) Slots.nil))), (by first | exact List.Sublist.refl _ | exact .cons_cons _ (.cons _ (.refl _)) | exact List.nil_sublist _ | exact .cons _ (.refl _) | exact .cons _ (.cons _ (.refl _)) | exact .cons _ (.cons _ (.cons _ (.refl _))) | exact .cons _ (.cons _ (.cons _ (.cons _ (.refl _)))) | exact .cons_cons _ (List.nil_sublist _))⟩, (by omega), ⟨i + 1, insP acc x.pl, rfl, rfl, (by omega), (insAll_step hx hacc), (by have := insP_len acc x.pl; omega)⟩⟩
  ·
    have hgei : l.length ≤ i := by have := of_decide_eq_false hc0; simp at this; omega
    rw [List.take_of_length_le hgei] at hacc
    refine awp_exit ?_
    refine x_thenE ?_
    refine x_thenE ?_
    refine x_blockE ?_
    refine x_then ?_
    refine awp_seq ?_
    refine awp_region ?_
    refine r_move rfl rfl ?_
    refine r_assign rfl rfl ?_
    refine awl_nil ?_
    refine x_then ?_
    refine awp_ret ?_
    exact ⟨(.inl rfl), _, [], (.one (by first | exact .mk rfl rfl | exact .nil rfl)), ⟨rfl, by rw [hacc]; rfl⟩, (List.nil_sublist _), (by simp)⟩

set_option maxHeartbeats 1000000 in
theorem rentries_ok (a b : List Ent) (hla : a.length ≤ 400) (hlb : b.length ≤ 400) : AC Try.prog 25 [entsA a, entsA b] [] (fun r n => n = [] ∧ r = chgsA (entriesF a b)) := by
  refine ac_of_awp (rs := [4]) (nt := 67) Try.func25 rfl rfl rfl rfl (fun w0 C0 hq => ?_)
  refine awp_seq ?_
  refine awp_region ?_
  refine r_assign rfl rfl ?_
  refine awl_nil ?_
  refine x_then ?_
  refine awp_seq ?_
  refine awp_region ?_
  refine r_lit 10 (parts := []) rfl TD.sl22 TD.sz110 TD.zraw110 rfl rfl rfl rfl rfl rfl rfl ?_
  refine r_move rfl rfl ?_
  refine r_append 10 rfl (by first | exact .own _ | exact .nil) rfl (by first | exact .sl _ | exact .own _ _ | exact .nil) TD.sl22 TD.sz110 (by decide) TD.by110 TD.zlen110 (by simp [chunks] <;> omega) (by simp [chunks] <;> omega) rfl ?_
  refine r_move rfl rfl ?_
  refine r_append 10 rfl (by first | exact .own _ | exact .nil) rfl (by first | exact .sl _ | exact .own _ _ | exact .nil) TD.sl22 TD.sz110 (by decide) TD.by110 TD.zlen110 (by simp [chunks] <;> omega) (by simp [chunks] <;> omega) rfl ?_
  refine awl_imp (imp_le 14 (x := .a (entsA (a ++ b))) rfl (.ownEq (by simp [chunks]))) ?_
  refine r_call0 hq rfl rfl (.cons (.ev rfl rfl) .nil) (places_ok (a ++ b) (by simp; omega)) rfl TD.en68 rfl (fun r hr => ?_)
  rw [places_one] at hr
  obtain ⟨pl, hpl⟩ : ∃ pl, pl = placesF [a, b] := ⟨_, rfl⟩
  rw [← hpl] at hr
  obtain rfl := hr
  have hpll : pl.length ≤ 800 := by rw [hpl]; have := places_len [a, b]; simp at this; omega
  refine r_assign rfl rfl ?_
  refine awl_nil ?_
  refine x_then ?_
  refine awp_seq ?_
  refine awp_region ?_
  refine r_lit 16 (parts := []) rfl TD.sl25 TD.sz113 TD.zraw113 rfl rfl rfl rfl rfl rfl rfl ?_
  refine r_assign rfl rfl ?_
  refine awl_nil ?_
  refine x_then ?_
  refine awp_seq ?_
  refine awp_seq ?_
  refine awp_region ?_
  refine r_assign rfl rfl ?_
  refine awl_nil ?_
  refine x_then ?_
  refine awp_block ?_
  refine awp_loop (fun nn0 S => ∃ k : Nat, S = ⟨67, [(0, .a (entsA a)), (1, .a (entsA b)), (5, .a (plesA pl)), (6, .own 16 4 (((pl.take k).filterMap (chgAt a b)).map Chg.cs)), (7, .a (.v (.int .i64 ((k : Int)))))], []⟩ ∧ nn0 = pl.length - k ∧ (k ≤ pl.length)) (pl.length - (0)) ⟨67, [(0, .a (entsA a)), (1, .a (entsA b)), (5, .a (plesA pl)), (6, .own 16 4 (((pl.take (0)).filterMap (chgAt a b)).map Chg.cs)), (7, .a (.v (.int .i64 (((0) : Int)))))], []⟩ ⟨rfl, (Slots.cons rfl (by first | exact .refl _ | exact .nilOwn _ _ | exact .nilSl _ | exact .ownSl _ _ _  | exact SV.le.of_eq (by simp)) (Slots.cons rfl (by first | exact .refl _ | exact .nilOwn _ _ | exact .nilSl _ | exact .ownSl _ _ _  | exact SV.le.of_eq (by simp)) (Slots.cons rfl (by first | exact .refl _ | exact .nilOwn _ _ | exact .nilSl _ | exact .ownSl _ _ _  | exact SV.le.of_eq (by simp)) (Slots.cons rfl (by first | exact .refl _ | exact .nilOwn _ _ | exact .nilSl _ | exact .ownSl _ _ _  | exact SV.le.of_eq (by simp)) (Slots.cons rfl (by first | exact .refl _ | exact .nilOwn _ _ | exact .nilSl _ | exact .ownSl _ _ _  | exact SV.le.of_eq (by simp)) Slots.nil))))), (by first | exact List.Sublist.refl _ | exact .cons_cons _ (.cons _ (.refl _)) | exact List.nil_sublist _ | exact .cons _ (.refl _) | exact .cons _ (.cons _ (.refl _)) | exact .cons _ (.cons _ (.cons _ (.refl _))) | exact .cons _ (.cons _ (.cons _ (.cons _ (.refl _)))) | exact .cons_cons _ (List.nil_sublist _))⟩ ⟨0, rfl, rfl, Nat.zero_le _⟩ ?_
  rintro nn0 _ ⟨k, rfl, rfl, hk⟩
  refine awp_seq ?_
  refine awp_seq ?_
  refine awp_region ?_
  refine r_move rfl rfl ?_
  refine r_move rfl rfl ?_
  first | (refine r_lenS rfl rfl TD.sl22 rfl ?_) | (refine r_lenNil rfl TD.sl22 rfl ?_)
  refine r_cmp rfl rfl rfl rfl ?_
  refine awl_nil ?_
  refine x_then ?_
  refine awp_cond rfl (fun hc0 => ?_) (fun hc0 => ?_)
  ·
    have hlt : k < pl.length := by have := of_decide_eq_true hc0; simpa using this
    obtain ⟨p, hp⟩ := get_lt hlt
    have hf : ((pl.take k).filterMap (chgAt a b)).length ≤ k := Nat.le_trans (List.length_filterMap_le _ _) (by simp; omega)
    refine awp_skip ?_
    refine x_then ?_
    refine awp_seq ?_
    refine awp_block ?_
    refine awp_seq ?_
    refine awp_drawS [23, 24, 25, 26, 27, 28, 29, 30, 31, 32, 33] [_, _, _, _, _, _, _, _, _, _, _] [] [] TD.mixed rfl rfl rfl ⟨⟨⟨⟨⟨⟨⟨⟨⟨⟨⟨trivial
      , ⟨_, rfl, fun sl hd hr ho => by
          refine r_move (hr 0 _ rfl rfl rfl) rfl ?_
          exact awl_nil ⟨rfl, post_put⟩⟩⟩
      , ⟨_, rfl, fun sl hd hr ho => by
          refine r_move (hr 5 _ rfl rfl rfl) rfl ?_
          exact awl_nil ⟨rfl, post_put⟩⟩⟩
      , ⟨_, rfl, fun sl hd hr ho => by
          refine r_move (hr 7 _ rfl rfl rfl) rfl ?_
          exact awl_nil ⟨rfl, post_put⟩⟩⟩
      , ⟨_, rfl, fun sl hd hr ho => by
          refine r_index (hd 1 _ rfl rfl rfl) rfl (hd 2 _ rfl rfl rfl) TD.sl22 TD.sz110 (by omega) (get_map hp) rfl ?_
          exact awl_nil ⟨rfl, post_put⟩⟩⟩
      , ⟨_, rfl, fun sl hd hr ho => by
          first | (refine r_fieldcp (hd 3 _ rfl rfl rfl) TD.f110_0 TD.sz3 rfl ?_) | (refine r_fieldb (hd 3 _ rfl rfl rfl) TD.f110_0 TD.sz3 rfl ?_)
          exact awl_nil ⟨rfl, post_put⟩⟩⟩
      , ⟨_, rfl, fun sl hd hr ho => by
          refine r_load1 (hd 4 _ rfl rfl rfl) TD.agg3 rfl ?_
          exact awl_nil ⟨rfl, post_put⟩⟩⟩
      , ⟨_, rfl, fun sl hd hr ho => by
          refine r_move (hr 5 _ rfl rfl rfl) rfl ?_
          exact awl_nil ⟨rfl, post_put⟩⟩⟩
      , ⟨_, rfl, fun sl hd hr ho => by
          refine r_move (hr 7 _ rfl rfl rfl) rfl ?_
          exact awl_nil ⟨rfl, post_put⟩⟩⟩
      , ⟨_, rfl, fun sl hd hr ho => by
          refine r_index (hd 6 _ rfl rfl rfl) rfl (hd 7 _ rfl rfl rfl) TD.sl22 TD.sz110 (by omega) (get_map hp) rfl ?_
          exact awl_nil ⟨rfl, post_put⟩⟩⟩
      , ⟨_, rfl, fun sl hd hr ho => by
          first | (refine r_fieldcp (hd 8 _ rfl rfl rfl) TD.f110_1 TD.sz3 rfl ?_) | (refine r_fieldb (hd 8 _ rfl rfl rfl) TD.f110_1 TD.sz3 rfl ?_)
          exact awl_nil ⟨rfl, post_put⟩⟩⟩
      , ⟨_, rfl, fun sl hd hr ho => by
          refine r_load1 (hd 9 _ rfl rfl rfl) TD.agg3 rfl ?_
          exact awl_nil ⟨rfl, post_put⟩⟩⟩
      (by rfl) ?_
    refine r_call0 hq rfl rfl (.cons (.ev rfl rfl) (.cons (.ev rfl rfl) (.cons (.ev rfl rfl) .nil))) (tells_ok a p.1 p.2 (by omega)) rfl TD.en69 rfl (fun r hr => ?_)
    obtain rfl := hr
    refine r_assign rfl rfl ?_
    refine awl_nil ?_
    refine x_then ?_
    refine awp_seq ?_
    refine awp_drawS [35, 36, 37, 38, 39, 40, 41, 42, 43, 44, 45] [_, _, _, _, _, _, _, _, _, _, _] [] [] TD.mixed rfl rfl rfl ⟨⟨⟨⟨⟨⟨⟨⟨⟨⟨⟨trivial
      , ⟨_, rfl, fun sl hd hr ho => by
          refine r_move (hr 1 _ rfl rfl rfl) rfl ?_
          exact awl_nil ⟨rfl, post_put⟩⟩⟩
      , ⟨_, rfl, fun sl hd hr ho => by
          refine r_move (hr 5 _ rfl rfl rfl) rfl ?_
          exact awl_nil ⟨rfl, post_put⟩⟩⟩
      , ⟨_, rfl, fun sl hd hr ho => by
          refine r_move (hr 7 _ rfl rfl rfl) rfl ?_
          exact awl_nil ⟨rfl, post_put⟩⟩⟩
      , ⟨_, rfl, fun sl hd hr ho => by
          refine r_index (hd 1 _ rfl rfl rfl) rfl (hd 2 _ rfl rfl rfl) TD.sl22 TD.sz110 (by omega) (get_map hp) rfl ?_
          exact awl_nil ⟨rfl, post_put⟩⟩⟩
      , ⟨_, rfl, fun sl hd hr ho => by
          first | (refine r_fieldcp (hd 3 _ rfl rfl rfl) TD.f110_0 TD.sz3 rfl ?_) | (refine r_fieldb (hd 3 _ rfl rfl rfl) TD.f110_0 TD.sz3 rfl ?_)
          exact awl_nil ⟨rfl, post_put⟩⟩⟩
      , ⟨_, rfl, fun sl hd hr ho => by
          refine r_load1 (hd 4 _ rfl rfl rfl) TD.agg3 rfl ?_
          exact awl_nil ⟨rfl, post_put⟩⟩⟩
      , ⟨_, rfl, fun sl hd hr ho => by
          refine r_move (hr 5 _ rfl rfl rfl) rfl ?_
          exact awl_nil ⟨rfl, post_put⟩⟩⟩
      , ⟨_, rfl, fun sl hd hr ho => by
          refine r_move (hr 7 _ rfl rfl rfl) rfl ?_
          exact awl_nil ⟨rfl, post_put⟩⟩⟩
      , ⟨_, rfl, fun sl hd hr ho => by
          refine r_index (hd 6 _ rfl rfl rfl) rfl (hd 7 _ rfl rfl rfl) TD.sl22 TD.sz110 (by omega) (get_map hp) rfl ?_
          exact awl_nil ⟨rfl, post_put⟩⟩⟩
      , ⟨_, rfl, fun sl hd hr ho => by
          first | (refine r_fieldcp (hd 8 _ rfl rfl rfl) TD.f110_1 TD.sz3 rfl ?_) | (refine r_fieldb (hd 8 _ rfl rfl rfl) TD.f110_1 TD.sz3 rfl ?_)
          exact awl_nil ⟨rfl, post_put⟩⟩⟩
      , ⟨_, rfl, fun sl hd hr ho => by
          refine r_load1 (hd 9 _ rfl rfl rfl) TD.agg3 rfl ?_
          exact awl_nil ⟨rfl, post_put⟩⟩⟩
      (by rfl) ?_
    refine r_call0 hq rfl rfl (.cons (.ev rfl rfl) (.cons (.ev rfl rfl) (.cons (.ev rfl rfl) .nil))) (tells_ok b p.1 p.2 (by omega)) rfl TD.en69 rfl (fun r hr => ?_)
    obtain rfl := hr
    refine r_assign rfl rfl ?_
    refine awl_nil ?_
    refine x_then ?_
    refine awp_seq ?_
    refine awp_region ?_
    refine r_move rfl rfl ?_
    refine r_move rfl rfl ?_
    refine r_cmp rfl rfl rfl rfl ?_
    refine awl_nil ?_
    refine x_then ?_
    refine awp_cond rfl (fun hc1 => ?_) (fun hc1 => ?_)
    ·
      have hne : ¬ shows a p = shows b p := by simpa using hc1
      have ht : chgAt a b p = some ⟨p.1, p.2, shows a p, shows b p⟩ := by rw [chgAt, if_neg hne]
      refine awp_drawS [50, 51, 52, 53, 54, 55, 56, 57, 58, 59, 60, 61, 62, 63, 64] [_, _, _, _, _, _, _, _, _, _, _, _, _, _, _] [] [(14, 64)] TD.mixed rfl rfl rfl ⟨⟨⟨⟨⟨⟨⟨⟨⟨⟨⟨⟨⟨⟨⟨trivial
        , ⟨_, rfl, fun sl hd hr ho => by
            refine r_move (hr 6 _ rfl rfl rfl) rfl ?_
            exact awl_nil ⟨rfl, post_put⟩⟩⟩
        , ⟨_, rfl, fun sl hd hr ho => by
            refine r_move (hr 5 _ rfl rfl rfl) rfl ?_
            exact awl_nil ⟨rfl, post_put⟩⟩⟩
        , ⟨_, rfl, fun sl hd hr ho => by
            refine r_move (hr 7 _ rfl rfl rfl) rfl ?_
            exact awl_nil ⟨rfl, post_put⟩⟩⟩
        , ⟨_, rfl, fun sl hd hr ho => by
            refine r_index (hd 1 _ rfl rfl rfl) rfl (hd 2 _ rfl rfl rfl) TD.sl22 TD.sz110 (by omega) (get_map hp) rfl ?_
            exact awl_nil ⟨rfl, post_put⟩⟩⟩
        , ⟨_, rfl, fun sl hd hr ho => by
            first | (refine r_fieldcp (hd 3 _ rfl rfl rfl) TD.f110_0 TD.sz3 rfl ?_) | (refine r_fieldb (hd 3 _ rfl rfl rfl) TD.f110_0 TD.sz3 rfl ?_)
            exact awl_nil ⟨rfl, post_put⟩⟩⟩
        , ⟨_, rfl, fun sl hd hr ho => by
            refine r_load1 (hd 4 _ rfl rfl rfl) TD.agg3 rfl ?_
            exact awl_nil ⟨rfl, post_put⟩⟩⟩
        , ⟨_, rfl, fun sl hd hr ho => by
            refine r_move (hr 5 _ rfl rfl rfl) rfl ?_
            exact awl_nil ⟨rfl, post_put⟩⟩⟩
        , ⟨_, rfl, fun sl hd hr ho => by
            refine r_move (hr 7 _ rfl rfl rfl) rfl ?_
            exact awl_nil ⟨rfl, post_put⟩⟩⟩
        , ⟨_, rfl, fun sl hd hr ho => by
            refine r_index (hd 6 _ rfl rfl rfl) rfl (hd 7 _ rfl rfl rfl) TD.sl22 TD.sz110 (by omega) (get_map hp) rfl ?_
            exact awl_nil ⟨rfl, post_put⟩⟩⟩
        , ⟨_, rfl, fun sl hd hr ho => by
            first | (refine r_fieldcp (hd 8 _ rfl rfl rfl) TD.f110_1 TD.sz3 rfl ?_) | (refine r_fieldb (hd 8 _ rfl rfl rfl) TD.f110_1 TD.sz3 rfl ?_)
            exact awl_nil ⟨rfl, post_put⟩⟩⟩
        , ⟨_, rfl, fun sl hd hr ho => by
            refine r_load1 (hd 9 _ rfl rfl rfl) TD.agg3 rfl ?_
            exact awl_nil ⟨rfl, post_put⟩⟩⟩
        , ⟨_, rfl, fun sl hd hr ho => by
            refine r_move (hr 8 _ rfl rfl rfl) rfl ?_
            exact awl_nil ⟨rfl, post_put⟩⟩⟩
        , ⟨_, rfl, fun sl hd hr ho => by
            refine r_move (hr 9 _ rfl rfl rfl) rfl ?_
            exact awl_nil ⟨rfl, post_put⟩⟩⟩
        , ⟨_, rfl, fun sl hd hr ho => by
            refine r_build (parts := [(0, .tmp 55), (1, .tmp 60), (2, .tmp 61), (3, .tmp 62)]) rfl TD.pl113 TD.zero113 (parts_cons (hd 5 _ rfl rfl rfl) (parts_cons (hd 10 _ rfl rfl rfl) (parts_cons (hd 11 _ rfl rfl rfl) (parts_cons (hd 12 _ rfl rfl rfl) parts_nil)))) rfl rfl ?_
            exact awl_nil ⟨rfl, post_put⟩⟩⟩
        , ⟨_, rfl, fun sl hd hr ho => by
            refine r_lit 64 (parts := [(0, .tmp 63)]) rfl TD.sl25 TD.sz113 TD.zraw113 rfl rfl (parts_cons (hd 13 _ rfl rfl rfl) parts_nil) rfl rfl rfl rfl ?_
            exact awl_nil ⟨rfl, (post_dem (ho 64 (List.mem_of_elem_eq_true rfl)))⟩⟩⟩
        (by rfl) ?_
      refine r_append 16 rfl (by first | exact .own _ | exact .nil) rfl (by first | exact .sl _ | exact .own _ _ | exact .nil) TD.sl25 TD.sz113 (by decide) TD.by113 TD.zlen113 (by simp [chunks] <;> omega) (by simp [chunks] <;> omega) rfl ?_
      refine r_assign rfl rfl ?_
      refine awl_nil ?_
      refine x_block ?_
      refine x_then ?_
      refine awp_region ?_
      refine r_move rfl rfl ?_
      refine r_ari _ rfl rfl rfl (wrap_id (by first | omega | (simp; omega))) rfl ?_
      refine r_assign rfl rfl ?_
      refine awl_nil ?_
      refine x_then ?_
      have et := fm_step (f := chgAt a b) hp
      rw [ht] at et
      simp only [Option.toList_some, Option.toList_none, List.append_nil] at et
      refine ⟨pl.length - (k + 1), ⟨67, [(0, .a (entsA a)), (1, .a (entsA b)), (5, .a (plesA pl)), (6, .own 16 4 (((pl.take (k + 1)).filterMap (chgAt a b)).map Chg.cs)), (7, .a (.v (.int .i64 (((k + 1) : Int)))))], []⟩, ⟨rfl, (Slots.cons rfl (by first | exact .refl _ | exact .nilOwn _ _ | exact .nilSl _ | exact .ownSl _ _ _  | exact SV.le.ownEq (by first | rfl | (rw [et, List.map_append]; rfl) | (rw [et]; first | done | rfl)) | exact SV.le.of_eq (by first | rfl | (rw [et, List.map_append]; rfl) | (rw [et]; first | done | rfl))) (Slots.cons rfl (by first | exact .refl _ | exact .nilOwn _ _ | exact .nilSl _ | exact .ownSl _ _ _  | exact SV.le.ownEq (by first | rfl | (rw [et, List.map_append]; rfl) | (rw [et]; first | done | rfl)) | exact SV.le.of_eq (by first | rfl | (rw [et, List.map_append]; rfl) | (rw [et]; first | done | rfl))) (Slots.cons rfl (by first | exact .refl _ | exact .nilOwn _ _ | exact .nilSl _ | exact .ownSl _ _ _  | exact SV.le.ownEq (by first | rfl | (rw [et, List.map_append]; rfl) | (rw [et]; first | done | rfl)) | exact SV.le.of_eq (by first | rfl | (rw [et, List.map_append]; rfl) | (rw [et]; first | done | rfl))) (Slots.cons rfl (by first | exact .refl _ | exact .nilOwn _ _ | exact .nilSl _ | exact .ownSl _ _ _  | exact SV.le.ownEq (by first | rfl | (rw [et, List.map_append]; rfl) | (rw [et]; first | done | rfl)) | exact SV.le.of_eq (by first | rfl | (rw [et, List.map_append]; rfl) | (rw [et]; first | done | rfl))) (Slots.cons rfl (by first | exact .refl _ | exact .nilOwn _ _ | exact .nilSl _ | exact .ownSl _ _ _  | exact SV.le.ownEq (by first | rfl | (rw [et, List.map_append]; rfl) | (rw [et]; first | done | rfl)) | exact SV.le.of_eq (by first | rfl | (rw [et, List.map_append]; rfl) | (rw [et]; first | done | rfl))) Slots.nil))))), (by first | exact List.Sublist.refl _ | exact .cons_cons _ (.cons _ (.refl _)) | exact List.nil_sublist _ | exact .cons _ (.refl _) | exact .cons _ (.cons _ (.refl _)) | exact .cons _ (.cons _ (.cons _ (.refl _))) | exact .cons _ (.cons _ (.cons _ (.cons _ (.refl _)))) | exact .cons_cons _ (List.nil_sublist _))⟩, (by omega), ⟨k + 1, rfl, rfl, (by omega)⟩⟩
    ·
      have hne : shows a p = shows b p := by simpa using hc1
      have ht : chgAt a b p = none := by rw [chgAt, if_pos hne]
      refine awp_skip ?_
      refine x_block ?_
      refine x_then ?_
      refine awp_region ?_
      refine r_move rfl rfl ?_
      refine r_ari _ rfl rfl rfl (wrap_id (by first | omega | (simp; omega))) rfl ?_
      refine r_assign rfl rfl ?_
      refine awl_nil ?_
      refine x_then ?_
      have et := fm_step (f := chgAt a b) hp
      rw [ht] at et
      simp only [Option.toList_some, Option.toList_none, List.append_nil] at et
      refine ⟨pl.length - (k + 1), ⟨67, [(0, .a (entsA a)), (1, .a (entsA b)), (5, .a (plesA pl)), (6, .own 16 4 (((pl.take (k + 1)).filterMap (chgAt a b)).map Chg.cs)), (7, .a (.v (.int .i64 (((k + 1) : Int)))))], []⟩, ⟨rfl, (Slots.cons rfl (by first | exact .refl _ | exact .nilOwn _ _ | exact .nilSl _ | exact .ownSl _ _ _  | exact SV.le.ownEq (by first | rfl | (rw [et, List.map_append]; rfl) | (rw [et]; first | done | rfl)) | exact SV.le.of_eq (by first | rfl | (rw [et, List.map_append]; rfl) | (rw [et]; first | done | rfl))) (Slots.cons rfl (by first | exact .refl _ | exact .nilOwn _ _ | exact .nilSl _ | exact .ownSl _ _ _  | exact SV.le.ownEq (by first | rfl | (rw [et, List.map_append]; rfl) | (rw [et]; first | done | rfl)) | exact SV.le.of_eq (by first | rfl | (rw [et, List.map_append]; rfl) | (rw [et]; first | done | rfl))) (Slots.cons rfl (by first | exact .refl _ | exact .nilOwn _ _ | exact .nilSl _ | exact .ownSl _ _ _  | exact SV.le.ownEq (by first | rfl | (rw [et, List.map_append]; rfl) | (rw [et]; first | done | rfl)) | exact SV.le.of_eq (by first | rfl | (rw [et, List.map_append]; rfl) | (rw [et]; first | done | rfl))) (Slots.cons rfl (by first | exact .refl _ | exact .nilOwn _ _ | exact .nilSl _ | exact .ownSl _ _ _  | exact SV.le.ownEq (by first | rfl | (rw [et, List.map_append]; rfl) | (rw [et]; first | done | rfl)) | exact SV.le.of_eq (by first | rfl | (rw [et, List.map_append]; rfl) | (rw [et]; first | done | rfl))) (Slots.cons rfl (by first | exact .refl _ | exact .nilOwn _ _ | exact .nilSl _ | exact .ownSl _ _ _  | exact SV.le.ownEq (by first | rfl | (rw [et, List.map_append]; rfl) | (rw [et]; first | done | rfl)) | exact SV.le.of_eq (by first | rfl | (rw [et, List.map_append]; rfl) | (rw [et]; first | done | rfl))) Slots.nil))))), (by first | exact List.Sublist.refl _ | exact .cons_cons _ (.cons _ (.refl _)) | exact List.nil_sublist _ | exact .cons _ (.refl _) | exact .cons _ (.cons _ (.refl _)) | exact .cons _ (.cons _ (.cons _ (.refl _))) | exact .cons _ (.cons _ (.cons _ (.cons _ (.refl _)))) | exact .cons_cons _ (List.nil_sublist _))⟩, (by omega), ⟨k + 1, rfl, rfl, (by omega)⟩⟩
  ·
    have hge : pl.length ≤ k := by have := of_decide_eq_false hc0; simp at this; omega
    have hkl : pl.take k = pl := List.take_of_length_le hge
    refine awp_exit ?_
    refine x_thenE ?_
    refine x_thenE ?_
    refine x_blockE ?_
    refine x_then ?_
    refine awp_seq ?_
    refine awp_region ?_
    refine r_move rfl rfl ?_
    refine r_assign rfl rfl ?_
    refine awl_nil ?_
    refine x_then ?_
    refine awp_ret ?_
    exact ⟨(.inl rfl), _, [], (.one (by first | exact .mk rfl rfl | exact .nil rfl)), ⟨rfl, by rw [hkl, hpl]; rfl⟩, (List.nil_sublist _), (by simp)⟩

set_option maxHeartbeats 1000000 in
theorem rclean_ok (l : List Ent) (hl : l.length ≤ 1000) : AC Try.prog 32 [entsA l] [] (fun r n => n = [] ∧ r = entsA (cleanF l)) := by
  refine ac_of_awp (rs := [2]) (nt := 46) Try.func32 rfl rfl rfl rfl (fun w0 C0 hq => ?_)
  refine awp_seq ?_
  refine awp_region ?_
  refine r_assign rfl rfl ?_
  refine awl_nil ?_
  refine x_then ?_
  refine awp_seq ?_
  refine awp_region ?_
  refine r_move rfl rfl ?_
  refine r_call0 hq rfl rfl (.cons (.ev rfl rfl) .nil) (places_ok l hl) rfl TD.en68 rfl (fun r hr => ?_)
  obtain ⟨pl, hpl⟩ : ∃ pl, pl = placesF [l] := ⟨_, rfl⟩
  rw [← hpl] at hr
  obtain rfl := hr
  have hpll : pl.length ≤ 1000 := by rw [hpl]; have := places_len [l]; simp at this; omega
  refine r_assign rfl rfl ?_
  refine awl_nil ?_
  refine x_then ?_
  refine awp_seq ?_
  refine awp_region ?_
  refine r_lit 9 (parts := []) rfl TD.sl22 TD.sz110 TD.zraw110 rfl rfl rfl rfl rfl rfl rfl ?_
  refine r_assign rfl rfl ?_
  refine awl_nil ?_
  refine x_then ?_
  refine awp_seq ?_
  refine awp_seq ?_
  refine awp_region ?_
  refine r_assign rfl rfl ?_
  refine awl_nil ?_
  refine x_then ?_
  refine awp_block ?_
  refine awp_loop (fun nn0 S => ∃ k : Nat, S = ⟨46, [(0, .a (entsA l)), (3, .a (plesA pl)), (4, .own 9 3 (((pl.take k).filterMap (cleanAt l)).map Ent.cs)), (5, .a (.v (.int .i64 ((k : Int)))))], []⟩ ∧ nn0 = pl.length - k ∧ (k ≤ pl.length)) (pl.length - (0)) ⟨46, [(0, .a (entsA l)), (3, .a (plesA pl)), (4, .own 9 3 (((pl.take (0)).filterMap (cleanAt l)).map Ent.cs)), (5, .a (.v (.int .i64 (((0) : Int)))))], []⟩ ⟨rfl, (Slots.cons rfl (by first | exact .refl _ | exact .nilOwn _ _ | exact .nilSl _ | exact .ownSl _ _ _  | exact SV.le.of_eq (by simp)) (Slots.cons rfl (by first | exact .refl _ | exact .nilOwn _ _ | exact .nilSl _ | exact .ownSl _ _ _  | exact SV.le.of_eq (by simp)) (Slots.cons rfl (by first | exact .refl _ | exact .nilOwn _ _ | exact .nilSl _ | exact .ownSl _ _ _  | exact SV.le.of_eq (by simp)) (Slots.cons rfl (by first | exact .refl _ | exact .nilOwn _ _ | exact .nilSl _ | exact .ownSl _ _ _  | exact SV.le.of_eq (by simp)) Slots.nil)))), (by first | exact List.Sublist.refl _ | exact .cons_cons _ (.cons _ (.refl _)) | exact List.nil_sublist _ | exact .cons _ (.refl _) | exact .cons _ (.cons _ (.refl _)) | exact .cons _ (.cons _ (.cons _ (.refl _))) | exact .cons _ (.cons _ (.cons _ (.cons _ (.refl _)))) | exact .cons_cons _ (List.nil_sublist _))⟩ ⟨0, rfl, rfl, Nat.zero_le _⟩ ?_
  rintro nn0 _ ⟨k, rfl, rfl, hk⟩
  refine awp_seq ?_
  refine awp_seq ?_
  refine awp_region ?_
  refine r_move rfl rfl ?_
  refine r_move rfl rfl ?_
  first | (refine r_lenS rfl rfl TD.sl22 rfl ?_) | (refine r_lenNil rfl TD.sl22 rfl ?_)
  refine r_cmp rfl rfl rfl rfl ?_
  refine awl_nil ?_
  refine x_then ?_
  refine awp_cond rfl (fun hc0 => ?_) (fun hc0 => ?_)
  ·
    have hlt : k < pl.length := by have := of_decide_eq_true hc0; simpa using this
    obtain ⟨p, hp⟩ := get_lt hlt
    have hf : ((pl.take k).filterMap (cleanAt l)).length ≤ k := Nat.le_trans (List.length_filterMap_le _ _) (by simp; omega)
    refine awp_skip ?_
    refine x_then ?_
    refine awp_seq ?_
    refine awp_block ?_
    refine awp_seq ?_
    refine awp_drawS [16, 17, 18, 19, 20, 21, 22, 23, 24, 25, 26] [_, _, _, _, _, _, _, _, _, _, _] [] [] TD.mixed rfl rfl rfl ⟨⟨⟨⟨⟨⟨⟨⟨⟨⟨⟨trivial
      , ⟨_, rfl, fun sl hd hr ho => by
          refine r_move (hr 0 _ rfl rfl rfl) rfl ?_
          exact awl_nil ⟨rfl, post_put⟩⟩⟩
      , ⟨_, rfl, fun sl hd hr ho => by
          refine r_move (hr 3 _ rfl rfl rfl) rfl ?_
          exact awl_nil ⟨rfl, post_put⟩⟩⟩
      , ⟨_, rfl, fun sl hd hr ho => by
          refine r_move (hr 5 _ rfl rfl rfl) rfl ?_
          exact awl_nil ⟨rfl, post_put⟩⟩⟩
      , ⟨_, rfl, fun sl hd hr ho => by
          refine r_index (hd 1 _ rfl rfl rfl) rfl (hd 2 _ rfl rfl rfl) TD.sl22 TD.sz110 (by omega) (get_map hp) rfl ?_
          exact awl_nil ⟨rfl, post_put⟩⟩⟩
      , ⟨_, rfl, fun sl hd hr ho => by
          first | (refine r_fieldcp (hd 3 _ rfl rfl rfl) TD.f110_0 TD.sz3 rfl ?_) | (refine r_fieldb (hd 3 _ rfl rfl rfl) TD.f110_0 TD.sz3 rfl ?_)
          exact awl_nil ⟨rfl, post_put⟩⟩⟩
      , ⟨_, rfl, fun sl hd hr ho => by
          refine r_load1 (hd 4 _ rfl rfl rfl) TD.agg3 rfl ?_
          exact awl_nil ⟨rfl, post_put⟩⟩⟩
      , ⟨_, rfl, fun sl hd hr ho => by
          refine r_move (hr 3 _ rfl rfl rfl) rfl ?_
          exact awl_nil ⟨rfl, post_put⟩⟩⟩
      , ⟨_, rfl, fun sl hd hr ho => by
          refine r_move (hr 5 _ rfl rfl rfl) rfl ?_
          exact awl_nil ⟨rfl, post_put⟩⟩⟩
      , ⟨_, rfl, fun sl hd hr ho => by
          refine r_index (hd 6 _ rfl rfl rfl) rfl (hd 7 _ rfl rfl rfl) TD.sl22 TD.sz110 (by omega) (get_map hp) rfl ?_
          exact awl_nil ⟨rfl, post_put⟩⟩⟩
      , ⟨_, rfl, fun sl hd hr ho => by
          first | (refine r_fieldcp (hd 8 _ rfl rfl rfl) TD.f110_1 TD.sz3 rfl ?_) | (refine r_fieldb (hd 8 _ rfl rfl rfl) TD.f110_1 TD.sz3 rfl ?_)
          exact awl_nil ⟨rfl, post_put⟩⟩⟩
      , ⟨_, rfl, fun sl hd hr ho => by
          refine r_load1 (hd 9 _ rfl rfl rfl) TD.agg3 rfl ?_
          exact awl_nil ⟨rfl, post_put⟩⟩⟩
      (by rfl) ?_
    refine r_call0 hq rfl rfl (.cons (.ev rfl rfl) (.cons (.ev rfl rfl) (.cons (.ev rfl rfl) .nil))) (tells_ok l p.1 p.2 (by omega)) rfl TD.en69 rfl (fun r hr => ?_)
    obtain rfl := hr
    refine r_assign rfl rfl ?_
    refine awl_nil ?_
    refine x_then ?_
    refine awp_seq ?_
    refine awp_region ?_
    refine r_move rfl rfl ?_
    refine r_cmp rfl rfl rfl rfl ?_
    refine awl_nil ?_
    refine x_then ?_
    refine awp_cond rfl (fun hc1 => ?_) (fun hc1 => ?_)
    ·
      have hne : ¬ shows l p = 0 := by simpa using hc1
      have ht : cleanAt l p = some ⟨p.1, p.2, shows l p⟩ := by rw [cleanAt, if_neg hne]
      refine awp_drawS [30, 31, 32, 33, 34, 35, 36, 37, 38, 39, 40, 41, 42, 43] [_, _, _, _, _, _, _, _, _, _, _, _, _, _] [] [(13, 43)] TD.mixed rfl rfl rfl ⟨⟨⟨⟨⟨⟨⟨⟨⟨⟨⟨⟨⟨⟨trivial
        , ⟨_, rfl, fun sl hd hr ho => by
            refine r_move (hr 4 _ rfl rfl rfl) rfl ?_
            exact awl_nil ⟨rfl, post_put⟩⟩⟩
        , ⟨_, rfl, fun sl hd hr ho => by
            refine r_move (hr 3 _ rfl rfl rfl) rfl ?_
            exact awl_nil ⟨rfl, post_put⟩⟩⟩
        , ⟨_, rfl, fun sl hd hr ho => by
            refine r_move (hr 5 _ rfl rfl rfl) rfl ?_
            exact awl_nil ⟨rfl, post_put⟩⟩⟩
        , ⟨_, rfl, fun sl hd hr ho => by
            refine r_index (hd 1 _ rfl rfl rfl) rfl (hd 2 _ rfl rfl rfl) TD.sl22 TD.sz110 (by omega) (get_map hp) rfl ?_
            exact awl_nil ⟨rfl, post_put⟩⟩⟩
        , ⟨_, rfl, fun sl hd hr ho => by
            first | (refine r_fieldcp (hd 3 _ rfl rfl rfl) TD.f110_0 TD.sz3 rfl ?_) | (refine r_fieldb (hd 3 _ rfl rfl rfl) TD.f110_0 TD.sz3 rfl ?_)
            exact awl_nil ⟨rfl, post_put⟩⟩⟩
        , ⟨_, rfl, fun sl hd hr ho => by
            refine r_load1 (hd 4 _ rfl rfl rfl) TD.agg3 rfl ?_
            exact awl_nil ⟨rfl, post_put⟩⟩⟩
        , ⟨_, rfl, fun sl hd hr ho => by
            refine r_move (hr 3 _ rfl rfl rfl) rfl ?_
            exact awl_nil ⟨rfl, post_put⟩⟩⟩
        , ⟨_, rfl, fun sl hd hr ho => by
            refine r_move (hr 5 _ rfl rfl rfl) rfl ?_
            exact awl_nil ⟨rfl, post_put⟩⟩⟩
        , ⟨_, rfl, fun sl hd hr ho => by
            refine r_index (hd 6 _ rfl rfl rfl) rfl (hd 7 _ rfl rfl rfl) TD.sl22 TD.sz110 (by omega) (get_map hp) rfl ?_
            exact awl_nil ⟨rfl, post_put⟩⟩⟩
        , ⟨_, rfl, fun sl hd hr ho => by
            first | (refine r_fieldcp (hd 8 _ rfl rfl rfl) TD.f110_1 TD.sz3 rfl ?_) | (refine r_fieldb (hd 8 _ rfl rfl rfl) TD.f110_1 TD.sz3 rfl ?_)
            exact awl_nil ⟨rfl, post_put⟩⟩⟩
        , ⟨_, rfl, fun sl hd hr ho => by
            refine r_load1 (hd 9 _ rfl rfl rfl) TD.agg3 rfl ?_
            exact awl_nil ⟨rfl, post_put⟩⟩⟩
        , ⟨_, rfl, fun sl hd hr ho => by
            refine r_move (hr 6 _ rfl rfl rfl) rfl ?_
            exact awl_nil ⟨rfl, post_put⟩⟩⟩
        , ⟨_, rfl, fun sl hd hr ho => by
            refine r_build (parts := [(0, .tmp 35), (1, .tmp 40), (2, .tmp 41)]) rfl TD.pl110 TD.zero110 (parts_cons (hd 5 _ rfl rfl rfl) (parts_cons (hd 10 _ rfl rfl rfl) (parts_cons (hd 11 _ rfl rfl rfl) parts_nil))) rfl rfl ?_
            exact awl_nil ⟨rfl, post_put⟩⟩⟩
        , ⟨_, rfl, fun sl hd hr ho => by
            refine r_lit 43 (parts := [(0, .tmp 42)]) rfl TD.sl22 TD.sz110 TD.zraw110 rfl rfl (parts_cons (hd 12 _ rfl rfl rfl) parts_nil) rfl rfl rfl rfl ?_
            exact awl_nil ⟨rfl, (post_dem (ho 43 (List.mem_of_elem_eq_true rfl)))⟩⟩⟩
        (by rfl) ?_
      refine r_append 9 rfl (by first | exact .own _ | exact .nil) rfl (by first | exact .sl _ | exact .own _ _ | exact .nil) TD.sl22 TD.sz110 (by decide) TD.by110 TD.zlen110 (by simp [chunks] <;> omega) (by simp [chunks] <;> omega) rfl ?_
      refine r_assign rfl rfl ?_
      refine awl_nil ?_
      refine x_block ?_
      refine x_then ?_
      refine awp_region ?_
      refine r_move rfl rfl ?_
      refine r_ari _ rfl rfl rfl (wrap_id (by first | omega | (simp; omega))) rfl ?_
      refine r_assign rfl rfl ?_
      refine awl_nil ?_
      refine x_then ?_
      have et := fm_step (f := cleanAt l) hp
      rw [ht] at et
      simp only [Option.toList_some, Option.toList_none, List.append_nil] at et
      refine ⟨pl.length - (k + 1), ⟨46, [(0, .a (entsA l)), (3, .a (plesA pl)), (4, .own 9 3 (((pl.take (k + 1)).filterMap (cleanAt l)).map Ent.cs)), (5, .a (.v (.int .i64 (((k + 1) : Int)))))], []⟩, ⟨rfl, (Slots.cons rfl (by first | exact .refl _ | exact .nilOwn _ _ | exact .nilSl _ | exact .ownSl _ _ _  | exact SV.le.ownEq (by first | rfl | (rw [et, List.map_append]; rfl) | (rw [et]; first | done | rfl)) | exact SV.le.of_eq (by first | rfl | (rw [et, List.map_append]; rfl) | (rw [et]; first | done | rfl))) (Slots.cons rfl (by first | exact .refl _ | exact .nilOwn _ _ | exact .nilSl _ | exact .ownSl _ _ _  | exact SV.le.ownEq (by first | rfl | (rw [et, List.map_append]; rfl) | (rw [et]; first | done | rfl)) | exact SV.le.of_eq (by first | rfl | (rw [et, List.map_append]; rfl) | (rw [et]; first | done | rfl))) (Slots.cons rfl (by first | exact .refl _ | exact .nilOwn _ _ | exact .nilSl _ | exact .ownSl _ _ _  | exact SV.le.ownEq (by first | rfl | (rw [et, List.map_append]; rfl) | (rw [et]; first | done | rfl)) | exact SV.le.of_eq (by first | rfl | (rw [et, List.map_append]; rfl) | (rw [et]; first | done | rfl))) (Slots.cons rfl (by first | exact .refl _ | exact .nilOwn _ _ | exact .nilSl _ | exact .ownSl _ _ _  | exact SV.le.ownEq (by first | rfl | (rw [et, List.map_append]; rfl) | (rw [et]; first | done | rfl)) | exact SV.le.of_eq (by first | rfl | (rw [et, List.map_append]; rfl) | (rw [et]; first | done | rfl))) Slots.nil)))), (by first | exact List.Sublist.refl _ | exact .cons_cons _ (.cons _ (.refl _)) | exact List.nil_sublist _ | exact .cons _ (.refl _) | exact .cons _ (.cons _ (.refl _)) | exact .cons _ (.cons _ (.cons _ (.refl _))) | exact .cons _ (.cons _ (.cons _ (.cons _ (.refl _)))) | exact .cons_cons _ (List.nil_sublist _))⟩, (by omega), ⟨k + 1, rfl, rfl, (by omega)⟩⟩
    ·
      have hne : shows l p = 0 := by simpa using hc1
      have ht : cleanAt l p = none := by rw [cleanAt, if_pos hne]
      refine awp_skip ?_
      refine x_block ?_
      refine x_then ?_
      refine awp_region ?_
      refine r_move rfl rfl ?_
      refine r_ari _ rfl rfl rfl (wrap_id (by first | omega | (simp; omega))) rfl ?_
      refine r_assign rfl rfl ?_
      refine awl_nil ?_
      refine x_then ?_
      have et := fm_step (f := cleanAt l) hp
      rw [ht] at et
      simp only [Option.toList_some, Option.toList_none, List.append_nil] at et
      refine ⟨pl.length - (k + 1), ⟨46, [(0, .a (entsA l)), (3, .a (plesA pl)), (4, .own 9 3 (((pl.take (k + 1)).filterMap (cleanAt l)).map Ent.cs)), (5, .a (.v (.int .i64 (((k + 1) : Int)))))], []⟩, ⟨rfl, (Slots.cons rfl (by first | exact .refl _ | exact .nilOwn _ _ | exact .nilSl _ | exact .ownSl _ _ _  | exact SV.le.ownEq (by first | rfl | (rw [et, List.map_append]; rfl) | (rw [et]; first | done | rfl)) | exact SV.le.of_eq (by first | rfl | (rw [et, List.map_append]; rfl) | (rw [et]; first | done | rfl))) (Slots.cons rfl (by first | exact .refl _ | exact .nilOwn _ _ | exact .nilSl _ | exact .ownSl _ _ _  | exact SV.le.ownEq (by first | rfl | (rw [et, List.map_append]; rfl) | (rw [et]; first | done | rfl)) | exact SV.le.of_eq (by first | rfl | (rw [et, List.map_append]; rfl) | (rw [et]; first | done | rfl))) (Slots.cons rfl (by first | exact .refl _ | exact .nilOwn _ _ | exact .nilSl _ | exact .ownSl _ _ _  | exact SV.le.ownEq (by first | rfl | (rw [et, List.map_append]; rfl) | (rw [et]; first | done | rfl)) | exact SV.le.of_eq (by first | rfl | (rw [et, List.map_append]; rfl) | (rw [et]; first | done | rfl))) (Slots.cons rfl (by first | exact .refl _ | exact .nilOwn _ _ | exact .nilSl _ | exact .ownSl _ _ _  | exact SV.le.ownEq (by first | rfl | (rw [et, List.map_append]; rfl) | (rw [et]; first | done | rfl)) | exact SV.le.of_eq (by first | rfl | (rw [et, List.map_append]; rfl) | (rw [et]; first | done | rfl))) Slots.nil)))), (by first | exact List.Sublist.refl _ | exact .cons_cons _ (.cons _ (.refl _)) | exact List.nil_sublist _ | exact .cons _ (.refl _) | exact .cons _ (.cons _ (.refl _)) | exact .cons _ (.cons _ (.cons _ (.refl _))) | exact .cons _ (.cons _ (.cons _ (.cons _ (.refl _)))) | exact .cons_cons _ (List.nil_sublist _))⟩, (by omega), ⟨k + 1, rfl, rfl, (by omega)⟩⟩
  ·
    have hge : pl.length ≤ k := by have := of_decide_eq_false hc0; simp at this; omega
    have hkl : pl.take k = pl := List.take_of_length_le hge
    refine awp_exit ?_
    refine x_thenE ?_
    refine x_thenE ?_
    refine x_blockE ?_
    refine x_then ?_
    refine awp_seq ?_
    refine awp_region ?_
    refine r_move rfl rfl ?_
    refine r_assign rfl rfl ?_
    refine awl_nil ?_
    refine x_then ?_
    refine awp_ret ?_
    exact ⟨(.inl rfl), _, [], (.one (by first | exact .mk rfl rfl | exact .nil rfl)), ⟨rfl, by rw [hkl, hpl]; rfl⟩, (List.nil_sublist _), (by simp)⟩

set_option maxHeartbeats 1000000 in
theorem rapply_ok (l : List Ent) (d : List Chg) (hll : l.length ≤ 400) (hld : d.length ≤ 400) : AC Try.prog 29 [entsA l, chgsA d] [] (fun r n => n = [] ∧ ((∃ l', applyF l d = some l' ∧ r = .tup [entsA (cleanF l'), bA true]) ∨ (applyF l d = none ∧ r = .tup [.v (.slice none 0 0), bA false]))) := by
  refine ac_of_awp (rs := [4, 5]) (nt := 52) Try.func29 rfl rfl rfl rfl (fun w0 C0 hq => ?_)
  refine awp_seq ?_
  refine awp_region ?_
  refine r_assign rfl rfl ?_
  refine r_assign rfl rfl ?_
  refine awl_nil ?_
  refine x_then ?_
  refine awp_seq ?_
  refine awp_seq ?_
  refine awp_region ?_
  refine r_assign rfl rfl ?_
  refine awl_nil ?_
  refine x_then ?_
  refine awp_block ?_
  refine awp_loop (fun nn0 S => ∃ k : Nat, ∃ l' : List Ent, S = ⟨52, [(0, .a (entsA l')), (1, .a (chgsA d)), (6, .a (.v (.int .i64 ((k : Int)))))], []⟩ ∧ nn0 = d.length - k ∧ (k ≤ d.length) ∧ (applyF l (d.take k) = some l') ∧ (l'.length = l.length + k)) (d.length - (0)) ⟨52, [(0, .a (entsA (l))), (1, .a (chgsA d)), (6, .a (.v (.int .i64 (((0) : Int)))))], []⟩ ⟨rfl, (Slots.cons rfl (by first | exact .refl _ | exact .nilOwn _ _ | exact .nilSl _ | exact .ownSl _ _ _  | exact SV.le.of_eq (by simp)) (Slots.cons rfl (by first | exact .refl _ | exact .nilOwn _ _ | exact .nilSl _ | exact .ownSl _ _ _  | exact SV.le.of_eq (by simp)) (Slots.cons rfl (by first | exact .refl _ | exact .nilOwn _ _ | exact .nilSl _ | exact .ownSl _ _ _  | exact SV.le.of_eq (by simp)) Slots.nil))), (by first | exact List.Sublist.refl _ | exact .cons_cons _ (.cons _ (.refl _)) | exact List.nil_sublist _ | exact .cons _ (.refl _) | exact .cons _ (.cons _ (.refl _)) | exact .cons _ (.cons _ (.cons _ (.refl _))) | exact .cons _ (.cons _ (.cons _ (.cons _ (.refl _)))) | exact .cons_cons _ (List.nil_sublist _))⟩ ⟨0, l, rfl, rfl, Nat.zero_le _, rfl, rfl⟩ ?_
  rintro nn0 _ ⟨k, l', rfl, rfl, hk, ha, hl'⟩
  refine awp_seq ?_
  refine awp_seq ?_
  refine awp_region ?_
  refine r_move rfl rfl ?_
  refine r_move rfl rfl ?_
  first | (refine r_lenS rfl rfl TD.sl25 rfl ?_) | (refine r_lenNil rfl TD.sl25 rfl ?_)
  refine r_cmp rfl rfl rfl rfl ?_
  refine awl_nil ?_
  refine x_then ?_
  refine awp_cond rfl (fun hc0 => ?_) (fun hc0 => ?_)
  ·
    have hltx : k < d.length := by have := of_decide_eq_true hc0; simpa using this
    obtain ⟨x, hx⟩ := get_lt hltx
    refine awp_skip ?_
    refine x_then ?_
    refine awp_seq ?_
    refine awp_block ?_
    refine awp_seq ?_
    refine awp_seq ?_
    refine awp_drawS [13, 14, 15, 16, 17, 18, 19, 20, 21, 22, 23, 24, 25, 26, 27, 28, 29] [_, _, _, _, _, _, _, _, _, _, _, _, _, _, _, _, _] [] [] TD.mixed rfl rfl rfl ⟨⟨⟨⟨⟨⟨⟨⟨⟨⟨⟨⟨⟨⟨⟨⟨⟨trivial
      , ⟨_, rfl, fun sl hd hr ho => by
          refine r_move (hr 0 _ rfl rfl rfl) rfl ?_
          exact awl_nil ⟨rfl, post_put⟩⟩⟩
      , ⟨_, rfl, fun sl hd hr ho => by
          refine r_move (hr 1 _ rfl rfl rfl) rfl ?_
          exact awl_nil ⟨rfl, post_put⟩⟩⟩
      , ⟨_, rfl, fun sl hd hr ho => by
          refine r_move (hr 6 _ rfl rfl rfl) rfl ?_
          exact awl_nil ⟨rfl, post_put⟩⟩⟩
      , ⟨_, rfl, fun sl hd hr ho => by
          refine r_index (hd 1 _ rfl rfl rfl) rfl (hd 2 _ rfl rfl rfl) TD.sl25 TD.sz113 (by omega) (get_map hx) rfl ?_
          exact awl_nil ⟨rfl, post_put⟩⟩⟩
      , ⟨_, rfl, fun sl hd hr ho => by
          first | (refine r_fieldcp (hd 3 _ rfl rfl rfl) TD.f113_0 TD.sz3 rfl ?_) | (refine r_fieldb (hd 3 _ rfl rfl rfl) TD.f113_0 TD.sz3 rfl ?_)
          exact awl_nil ⟨rfl, post_put⟩⟩⟩
      , ⟨_, rfl, fun sl hd hr ho => by
          refine r_load1 (hd 4 _ rfl rfl rfl) TD.agg3 rfl ?_
          exact awl_nil ⟨rfl, post_put⟩⟩⟩
      , ⟨_, rfl, fun sl hd hr ho => by
          refine r_move (hr 1 _ rfl rfl rfl) rfl ?_
          exact awl_nil ⟨rfl, post_put⟩⟩⟩
      , ⟨_, rfl, fun sl hd hr ho => by
          refine r_move (hr 6 _ rfl rfl rfl) rfl ?_
          exact awl_nil ⟨rfl, post_put⟩⟩⟩
      , ⟨_, rfl, fun sl hd hr ho => by
          refine r_index (hd 6 _ rfl rfl rfl) rfl (hd 7 _ rfl rfl rfl) TD.sl25 TD.sz113 (by omega) (get_map hx) rfl ?_
          exact awl_nil ⟨rfl, post_put⟩⟩⟩
      , ⟨_, rfl, fun sl hd hr ho => by
          first | (refine r_fieldcp (hd 8 _ rfl rfl rfl) TD.f113_1 TD.sz3 rfl ?_) | (refine r_fieldb (hd 8 _ rfl rfl rfl) TD.f113_1 TD.sz3 rfl ?_)
          exact awl_nil ⟨rfl, post_put⟩⟩⟩
      , ⟨_, rfl, fun sl hd hr ho => by
          refine r_load1 (hd 9 _ rfl rfl rfl) TD.agg3 rfl ?_
          exact awl_nil ⟨rfl, post_put⟩⟩⟩
      , ⟨_, rfl, fun sl hd hr ho => by
          refine r_call0 hq rfl rfl (.cons (.ev (hd 0 _ rfl rfl rfl) rfl) (.cons (.ev (hd 5 _ rfl rfl rfl) rfl) (.cons (.ev (hd 10 _ rfl rfl rfl) rfl) .nil))) (tells_ok l' x.vol x.blk (by omega)) rfl TD.en69 rfl (fun r hr => ?_)
          obtain rfl := hr
          exact awl_nil ⟨rfl, post_put⟩⟩⟩
      , ⟨_, rfl, fun sl hd hr ho => by
          refine r_move (hr 1 _ rfl rfl rfl) rfl ?_
          exact awl_nil ⟨rfl, post_put⟩⟩⟩
      , ⟨_, rfl, fun sl hd hr ho => by
          refine r_move (hr 6 _ rfl rfl rfl) rfl ?_
          exact awl_nil ⟨rfl, post_put⟩⟩⟩
      , ⟨_, rfl, fun sl hd hr ho => by
          refine r_index (hd 12 _ rfl rfl rfl) rfl (hd 13 _ rfl rfl rfl) TD.sl25 TD.sz113 (by omega) (get_map hx) rfl ?_
          exact awl_nil ⟨rfl, post_put⟩⟩⟩
      , ⟨_, rfl, fun sl hd hr ho => by
          first | (refine r_fieldcp (hd 14 _ rfl rfl rfl) TD.f113_2 TD.sz79 rfl ?_) | (refine r_fieldb (hd 14 _ rfl rfl rfl) TD.f113_2 TD.sz79 rfl ?_)
          exact awl_nil ⟨rfl, post_put⟩⟩⟩
      , ⟨_, rfl, fun sl hd hr ho => by
          refine r_load1 (hd 15 _ rfl rfl rfl) TD.agg79 rfl ?_
          exact awl_nil ⟨rfl, post_put⟩⟩⟩
      (by rfl) ?_
    refine r_cmp rfl rfl rfl rfl ?_
    refine awl_nil ?_
    refine x_then ?_
    refine awp_cond rfl (fun hc1 => ?_) (fun hc1 => ?_)
    ·
      have hsx : ¬ shows l' x.pl = x.a := show ¬ shows l' (x.vol, x.blk) = x.a by simpa using hc1
      refine awp_seq ?_
      refine awp_region ?_
      refine r_assign rfl rfl ?_
      refine r_assign rfl rfl ?_
      refine awl_nil ?_
      refine x_then ?_
      refine awp_ret ?_
      refine x_thenR ?_
      refine x_blockR ?_
      refine x_thenR ?_
      refine x_thenR ?_
      refine x_blockR ?_
      refine x_thenR ?_
      exact ⟨(.inl rfl), _, [], (.two (by first | exact .mk rfl rfl | exact .nil rfl) (by first | exact .mk rfl rfl | exact .nil rfl)), ⟨rfl, .inr ⟨apply_fail hx ha hsx, rfl⟩⟩, (List.nil_sublist _), (by simp)⟩
    ·
      have hsx : shows l' x.pl = x.a := show shows l' (x.vol, x.blk) = x.a by simpa using hc1
      refine awp_skip ?_
      refine x_then ?_
      refine awp_drawS [31, 32, 33, 34, 35, 36, 37, 38, 39, 40, 41, 42, 43, 44, 45, 46, 47, 48] [_, _, _, _, _, _, _, _, _, _, _, _, _, _, _, _, _, _] [] [(16, 47)] TD.mixed rfl rfl rfl ⟨⟨⟨⟨⟨⟨⟨⟨⟨⟨⟨⟨⟨⟨⟨⟨⟨⟨trivial
        , ⟨_, rfl, fun sl hd hr ho => by
            refine r_move (hr 1 _ rfl rfl rfl) rfl ?_
            exact awl_nil ⟨rfl, post_put⟩⟩⟩
        , ⟨_, rfl, fun sl hd hr ho => by
            refine r_move (hr 6 _ rfl rfl rfl) rfl ?_
            exact awl_nil ⟨rfl, post_put⟩⟩⟩
        , ⟨_, rfl, fun sl hd hr ho => by
            refine r_index (hd 0 _ rfl rfl rfl) rfl (hd 1 _ rfl rfl rfl) TD.sl25 TD.sz113 (by omega) (get_map hx) rfl ?_
            exact awl_nil ⟨rfl, post_put⟩⟩⟩
        , ⟨_, rfl, fun sl hd hr ho => by
            first | (refine r_fieldcp (hd 2 _ rfl rfl rfl) TD.f113_0 TD.sz3 rfl ?_) | (refine r_fieldb (hd 2 _ rfl rfl rfl) TD.f113_0 TD.sz3 rfl ?_)
            exact awl_nil ⟨rfl, post_put⟩⟩⟩
        , ⟨_, rfl, fun sl hd hr ho => by
            refine r_load1 (hd 3 _ rfl rfl rfl) TD.agg3 rfl ?_
            exact awl_nil ⟨rfl, post_put⟩⟩⟩
        , ⟨_, rfl, fun sl hd hr ho => by
            refine r_move (hr 1 _ rfl rfl rfl) rfl ?_
            exact awl_nil ⟨rfl, post_put⟩⟩⟩
        , ⟨_, rfl, fun sl hd hr ho => by
            refine r_move (hr 6 _ rfl rfl rfl) rfl ?_
            exact awl_nil ⟨rfl, post_put⟩⟩⟩
        , ⟨_, rfl, fun sl hd hr ho => by
            refine r_index (hd 5 _ rfl rfl rfl) rfl (hd 6 _ rfl rfl rfl) TD.sl25 TD.sz113 (by omega) (get_map hx) rfl ?_
            exact awl_nil ⟨rfl, post_put⟩⟩⟩
        , ⟨_, rfl, fun sl hd hr ho => by
            first | (refine r_fieldcp (hd 7 _ rfl rfl rfl) TD.f113_1 TD.sz3 rfl ?_) | (refine r_fieldb (hd 7 _ rfl rfl rfl) TD.f113_1 TD.sz3 rfl ?_)
            exact awl_nil ⟨rfl, post_put⟩⟩⟩
        , ⟨_, rfl, fun sl hd hr ho => by
            refine r_load1 (hd 8 _ rfl rfl rfl) TD.agg3 rfl ?_
            exact awl_nil ⟨rfl, post_put⟩⟩⟩
        , ⟨_, rfl, fun sl hd hr ho => by
            refine r_move (hr 1 _ rfl rfl rfl) rfl ?_
            exact awl_nil ⟨rfl, post_put⟩⟩⟩
        , ⟨_, rfl, fun sl hd hr ho => by
            refine r_move (hr 6 _ rfl rfl rfl) rfl ?_
            exact awl_nil ⟨rfl, post_put⟩⟩⟩
        , ⟨_, rfl, fun sl hd hr ho => by
            refine r_index (hd 10 _ rfl rfl rfl) rfl (hd 11 _ rfl rfl rfl) TD.sl25 TD.sz113 (by omega) (get_map hx) rfl ?_
            exact awl_nil ⟨rfl, post_put⟩⟩⟩
        , ⟨_, rfl, fun sl hd hr ho => by
            first | (refine r_fieldcp (hd 12 _ rfl rfl rfl) TD.f113_3 TD.sz79 rfl ?_) | (refine r_fieldb (hd 12 _ rfl rfl rfl) TD.f113_3 TD.sz79 rfl ?_)
            exact awl_nil ⟨rfl, post_put⟩⟩⟩
        , ⟨_, rfl, fun sl hd hr ho => by
            refine r_load1 (hd 13 _ rfl rfl rfl) TD.agg79 rfl ?_
            exact awl_nil ⟨rfl, post_put⟩⟩⟩
        , ⟨_, rfl, fun sl hd hr ho => by
            refine r_build (parts := [(0, .tmp 35), (1, .tmp 40), (2, .tmp 45)]) rfl TD.pl110 TD.zero110 (parts_cons (hd 4 _ rfl rfl rfl) (parts_cons (hd 9 _ rfl rfl rfl) (parts_cons (hd 14 _ rfl rfl rfl) parts_nil))) rfl rfl ?_
            exact awl_nil ⟨rfl, post_put⟩⟩⟩
        , ⟨_, rfl, fun sl hd hr ho => by
            refine r_lit 47 (parts := [(0, .tmp 46)]) rfl TD.sl22 TD.sz110 TD.zraw110 rfl rfl (parts_cons (hd 15 _ rfl rfl rfl) parts_nil) rfl rfl rfl rfl ?_
            exact awl_nil ⟨rfl, (post_dem (ho 47 (List.mem_of_elem_eq_true rfl)))⟩⟩⟩
        , ⟨_, rfl, fun sl hd hr ho => by
            refine r_move (hr 0 _ rfl rfl rfl) rfl ?_
            exact awl_nil ⟨rfl, post_put⟩⟩⟩
        (by rfl) ?_
      refine r_append 47 rfl (by first | exact .own _ | exact .nil) rfl (by first | exact .sl _ | exact .own _ _ | exact .nil) TD.sl22 TD.sz110 (by decide) TD.by110 TD.zlen110 (by simp [chunks] <;> omega) (by simp [chunks] <;> omega) rfl ?_
      refine r_assign rfl rfl ?_
      refine awl_nil ?_
      refine x_block ?_
      refine x_then ?_
      refine awp_region ?_
      refine r_move rfl rfl ?_
      refine r_ari _ rfl rfl rfl (wrap_id (by first | omega | (simp; omega))) rfl ?_
      refine r_assign rfl rfl ?_
      refine awl_nil ?_
      refine x_then ?_
      refine ⟨d.length - (k + 1), ⟨52, [(0, .a (entsA (⟨x.vol, x.blk, x.b⟩ :: l'))), (1, .a (chgsA d)), (6, .a (.v (.int .i64 (((k + 1) : Int)))))], []⟩, ⟨rfl, (Slots.cons rfl (by first | exact .refl _ | exact .nilOwn _ _ | exact .nilSl _ | exact .ownSl _ _ _  | exact SV.le.ownEq (by first | rfl | simp [chunks] | (simp [chunks]; rfl)) | exact SV.le.of_eq (by first | rfl | simp [chunks] | (simp [chunks]; rfl))) (Slots.cons rfl (by first | exact .refl _ | exact .nilOwn _ _ | exact .nilSl _ | exact .ownSl _ _ _  | exact SV.le.ownEq (by first | rfl | simp [chunks] | (simp [chunks]; rfl)) | exact SV.le.of_eq (by first | rfl | simp [chunks] | (simp [chunks]; rfl))) (Slots.cons rfl (by first | exact .refl _ | exact .nilOwn _ _ | exact .nilSl _ | exact .ownSl _ _ _  | exact SV.le.ownEq (by first | rfl | simp [chunks] | (simp [chunks]; rfl)) | exact SV.le.of_eq (by first | rfl | simp [chunks] | (simp [chunks]; rfl))) Slots.nil))), (by first | exact List.Sublist.refl _ | exact .cons_cons _ (.cons _ (.refl _)) | exact List.nil_sublist _ | exact .cons _ (.refl _) | exact .cons _ (.cons _ (.refl _)) | exact .cons _ (.cons _ (.cons _ (.refl _))) | exact .cons _ (.cons _ (.cons _ (.cons _ (.refl _)))) | exact .cons_cons _ (List.nil_sublist _))⟩, (by omega), ⟨k + 1, ⟨x.vol, x.blk, x.b⟩ :: l', rfl, rfl, (by omega), (apply_step hx ha hsx), (by simp; omega)⟩⟩
  ·
    have hge : d.length ≤ k := by have := of_decide_eq_false hc0; simp at this; omega
    have ha' := apply_end hge ha
    refine awp_exit ?_
    refine x_thenE ?_
    refine x_thenE ?_
    refine x_blockE ?_
    refine x_then ?_
    refine awp_seq ?_
    refine awp_region ?_
    refine r_move rfl rfl ?_
    refine r_call0 hq rfl rfl (.cons (.ev rfl rfl) .nil) (rclean_ok l' (by omega)) rfl TD.en32 rfl (fun r hr => ?_)
    obtain rfl := hr
    refine r_assign rfl rfl ?_
    refine r_assign rfl rfl ?_
    refine awl_nil ?_
    refine x_then ?_
    refine awp_ret ?_
    exact ⟨(.inl rfl), _, [], (.two (by first | exact .mk rfl rfl | exact .nil rfl) (by first | exact .mk rfl rfl | exact .nil rfl)), ⟨rfl, .inl ⟨l', ha', rfl⟩⟩, (List.nil_sublist _), (by simp)⟩

theorem rturn_ok (d : List Chg) (hd : d.length ≤ 1000000) : AC Try.prog 31 [chgsA d] [] (fun r n => n = [] ∧ r = chgsA (turnF d)) := by
  refine ac_of_awp (rs := [2]) (nt := 38) Try.func31 rfl rfl rfl rfl (fun w0 C0 hq => ?_)
  refine awp_seq ?_
  refine awp_region ?_
  refine r_assign rfl rfl ?_
  refine awl_nil ?_
  refine x_then ?_
  refine awp_seq ?_
  refine awp_region ?_
  refine r_lit 5 (parts := []) rfl TD.sl25 TD.sz113 TD.zraw113 rfl rfl rfl rfl rfl rfl rfl ?_
  refine r_assign rfl rfl ?_
  refine awl_nil ?_
  refine x_then ?_
  refine awp_seq ?_
  refine awp_seq ?_
  refine awp_region ?_
  refine r_move rfl rfl ?_
  first | (refine r_lenS rfl rfl TD.sl25 rfl ?_) | (refine r_lenNil rfl TD.sl25 rfl ?_)
  refine r_ari _ rfl rfl rfl (wrap_id (by first | omega | (simp; omega))) rfl ?_
  refine r_assign rfl rfl ?_
  refine awl_nil ?_
  refine x_then ?_
  refine awp_block ?_
  refine awp_loop (fun nn0 S => ∃ k : Nat, S = ⟨38, [(0, .a (chgsA d)), (3, .own 5 4 (((d.reverse.take k).map Chg.turn).map Chg.cs)), (4, .a (.v (.int .i64 ((d.length : Int) - 1 - (k : Int)))))], []⟩ ∧ nn0 = d.length - k ∧ (k ≤ d.length)) (d.length - (0)) ⟨38, [(0, .a (chgsA d)), (3, .own 5 4 (((d.reverse.take (0)).map Chg.turn).map Chg.cs)), (4, .a (.v (.int .i64 ((d.length : Int) - 1 - ((0) : Int)))))], []⟩ ⟨rfl, (Slots.cons rfl (by first | exact .refl _ | exact .nilOwn _ _ | exact .nilSl _ | exact .ownSl _ _ _  | exact SV.le.ownEq (by simp) | exact SV.le.of_eq (by simp)) (Slots.cons rfl (by first | exact .refl _ | exact .nilOwn _ _ | exact .nilSl _ | exact .ownSl _ _ _  | exact SV.le.ownEq (by simp) | exact SV.le.of_eq (by simp)) (Slots.cons rfl (by first | exact .refl _ | exact .nilOwn _ _ | exact .nilSl _ | exact .ownSl _ _ _  | exact SV.le.ownEq (by simp) | exact SV.le.of_eq (by simp)) Slots.nil))), (by first | exact List.Sublist.refl _ | exact .cons_cons _ (.cons _ (.refl _)) | exact List.nil_sublist _ | exact .cons _ (.refl _) | exact .cons _ (.cons _ (.refl _)) | exact .cons _ (.cons _ (.cons _ (.refl _))) | exact .cons _ (.cons _ (.cons _ (.cons _ (.refl _)))) | exact .cons_cons _ (List.nil_sublist _))⟩ ⟨0, rfl, rfl, Nat.zero_le _⟩ ?_
  rintro nn0 _ ⟨k, rfl, rfl, hk⟩
  refine awp_seq ?_
  refine awp_seq ?_
  refine awp_region ?_
  refine r_move rfl rfl ?_
  refine r_cmp rfl rfl rfl rfl ?_
  refine awl_nil ?_
  refine x_then ?_
  refine awp_cond rfl (fun hc0 => ?_) (fun hc0 => ?_)
  ·
    have hkl : k < d.length := by have := of_decide_eq_true hc0; simp at this; omega
    obtain ⟨x, hxr⟩ : ∃ x, d.reverse[k]? = some x := get_lt (by simpa using hkl)
    have hx := (rev_get hxr).2
    refine awp_skip ?_
    refine x_then ?_
    refine awp_seq ?_
    refine awp_block ?_
    refine awp_drawS [13, 14, 15, 16, 17, 18, 19, 20, 21, 22, 23, 24, 25, 26, 27, 28, 29, 30, 31, 32, 33, 34, 35] [_, _, _, _, _, _, _, _, _, _, _, _, _, _, _, _, _, _, _, _, _, _, _] [] [(22, 35)] TD.mixed rfl rfl rfl ⟨⟨⟨⟨⟨⟨⟨⟨⟨⟨⟨⟨⟨⟨⟨⟨⟨⟨⟨⟨⟨⟨⟨trivial
      , ⟨_, rfl, fun sl hd hr ho => by
          refine r_move (hr 3 _ rfl rfl rfl) rfl ?_
          exact awl_nil ⟨rfl, post_put⟩⟩⟩
      , ⟨_, rfl, fun sl hd hr ho => by
          refine r_move (hr 0 _ rfl rfl rfl) rfl ?_
          exact awl_nil ⟨rfl, post_put⟩⟩⟩
      , ⟨_, rfl, fun sl hd hr ho => by
          refine r_move (hr 4 _ rfl rfl rfl) rfl ?_
          exact awl_nil ⟨rfl, post_put⟩⟩⟩
      , ⟨_, rfl, fun sl hd hr ho => by
          refine r_index (hd 1 _ rfl rfl rfl) rfl (hd 2 _ rfl rfl rfl) TD.sl25 TD.sz113 (by omega) (by rw [show ((d.length : Int) - 1 - (k : Int)).toNat = d.length - 1 - k by omega]; exact get_map hx) rfl ?_
          exact awl_nil ⟨rfl, post_put⟩⟩⟩
      , ⟨_, rfl, fun sl hd hr ho => by
          first | (refine r_fieldcp (hd 3 _ rfl rfl rfl) TD.f113_0 TD.sz3 rfl ?_) | (refine r_fieldb (hd 3 _ rfl rfl rfl) TD.f113_0 TD.sz3 rfl ?_)
          exact awl_nil ⟨rfl, post_put⟩⟩⟩
      , ⟨_, rfl, fun sl hd hr ho => by
          refine r_load1 (hd 4 _ rfl rfl rfl) TD.agg3 rfl ?_
          exact awl_nil ⟨rfl, post_put⟩⟩⟩
      , ⟨_, rfl, fun sl hd hr ho => by
          refine r_move (hr 0 _ rfl rfl rfl) rfl ?_
          exact awl_nil ⟨rfl, post_put⟩⟩⟩
      , ⟨_, rfl, fun sl hd hr ho => by
          refine r_move (hr 4 _ rfl rfl rfl) rfl ?_
          exact awl_nil ⟨rfl, post_put⟩⟩⟩
      , ⟨_, rfl, fun sl hd hr ho => by
          refine r_index (hd 6 _ rfl rfl rfl) rfl (hd 7 _ rfl rfl rfl) TD.sl25 TD.sz113 (by omega) (by rw [show ((d.length : Int) - 1 - (k : Int)).toNat = d.length - 1 - k by omega]; exact get_map hx) rfl ?_
          exact awl_nil ⟨rfl, post_put⟩⟩⟩
      , ⟨_, rfl, fun sl hd hr ho => by
          first | (refine r_fieldcp (hd 8 _ rfl rfl rfl) TD.f113_1 TD.sz3 rfl ?_) | (refine r_fieldb (hd 8 _ rfl rfl rfl) TD.f113_1 TD.sz3 rfl ?_)
          exact awl_nil ⟨rfl, post_put⟩⟩⟩
      , ⟨_, rfl, fun sl hd hr ho => by
          refine r_load1 (hd 9 _ rfl rfl rfl) TD.agg3 rfl ?_
          exact awl_nil ⟨rfl, post_put⟩⟩⟩
      , ⟨_, rfl, fun sl hd hr ho => by
          refine r_move (hr 0 _ rfl rfl rfl) rfl ?_
          exact awl_nil ⟨rfl, post_put⟩⟩⟩
      , ⟨_, rfl, fun sl hd hr ho => by
          refine r_move (hr 4 _ rfl rfl rfl) rfl ?_
          exact awl_nil ⟨rfl, post_put⟩⟩⟩
      , ⟨_, rfl, fun sl hd hr ho => by
          refine r_index (hd 11 _ rfl rfl rfl) rfl (hd 12 _ rfl rfl rfl) TD.sl25 TD.sz113 (by omega) (by rw [show ((d.length : Int) - 1 - (k : Int)).toNat = d.length - 1 - k by omega]; exact get_map hx) rfl ?_
          exact awl_nil ⟨rfl, post_put⟩⟩⟩
      , ⟨_, rfl, fun sl hd hr ho => by
          first | (refine r_fieldcp (hd 13 _ rfl rfl rfl) TD.f113_3 TD.sz79 rfl ?_) | (refine r_fieldb (hd 13 _ rfl rfl rfl) TD.f113_3 TD.sz79 rfl ?_)
          exact awl_nil ⟨rfl, post_put⟩⟩⟩
      , ⟨_, rfl, fun sl hd hr ho => by
          refine r_load1 (hd 14 _ rfl rfl rfl) TD.agg79 rfl ?_
          exact awl_nil ⟨rfl, post_put⟩⟩⟩
      , ⟨_, rfl, fun sl hd hr ho => by
          refine r_move (hr 0 _ rfl rfl rfl) rfl ?_
          exact awl_nil ⟨rfl, post_put⟩⟩⟩
      , ⟨_, rfl, fun sl hd hr ho => by
          refine r_move (hr 4 _ rfl rfl rfl) rfl ?_
          exact awl_nil ⟨rfl, post_put⟩⟩⟩
      , ⟨_, rfl, fun sl hd hr ho => by
          refine r_index (hd 16 _ rfl rfl rfl) rfl (hd 17 _ rfl rfl rfl) TD.sl25 TD.sz113 (by omega) (by rw [show ((d.length : Int) - 1 - (k : Int)).toNat = d.length - 1 - k by omega]; exact get_map hx) rfl ?_
          exact awl_nil ⟨rfl, post_put⟩⟩⟩
      , ⟨_, rfl, fun sl hd hr ho => by
          first | (refine r_fieldcp (hd 18 _ rfl rfl rfl) TD.f113_2 TD.sz79 rfl ?_) | (refine r_fieldb (hd 18 _ rfl rfl rfl) TD.f113_2 TD.sz79 rfl ?_)
          exact awl_nil ⟨rfl, post_put⟩⟩⟩
      , ⟨_, rfl, fun sl hd hr ho => by
          refine r_load1 (hd 19 _ rfl rfl rfl) TD.agg79 rfl ?_
          exact awl_nil ⟨rfl, post_put⟩⟩⟩
      , ⟨_, rfl, fun sl hd hr ho => by
          refine r_build (parts := [(0, .tmp 18), (1, .tmp 23), (2, .tmp 28), (3, .tmp 33)]) rfl TD.pl113 TD.zero113 (parts_cons (hd 5 _ rfl rfl rfl) (parts_cons (hd 10 _ rfl rfl rfl) (parts_cons (hd 15 _ rfl rfl rfl) (parts_cons (hd 20 _ rfl rfl rfl) parts_nil)))) rfl rfl ?_
          exact awl_nil ⟨rfl, post_put⟩⟩⟩
      , ⟨_, rfl, fun sl hd hr ho => by
          refine r_lit 35 (parts := [(0, .tmp 34)]) rfl TD.sl25 TD.sz113 TD.zraw113 rfl rfl (parts_cons (hd 21 _ rfl rfl rfl) parts_nil) rfl rfl rfl rfl ?_
          exact awl_nil ⟨rfl, (post_dem (ho 35 (List.mem_of_elem_eq_true rfl)))⟩⟩⟩
      (by rfl) ?_
    refine r_append 5 rfl (by first | exact .own _ | exact .nil) rfl (by first | exact .sl _ | exact .own _ _ | exact .nil) TD.sl25 TD.sz113 (by decide) TD.by113 TD.zlen113 (by simp [chunks] <;> omega) (by simp [chunks] <;> omega) rfl ?_
    refine r_assign rfl rfl ?_
    refine awl_nil ?_
    refine x_block ?_
    refine x_then ?_
    refine awp_region ?_
    refine r_move rfl rfl ?_
    refine r_ari _ rfl rfl rfl (wrap_id (by first | omega | (simp; omega))) rfl ?_
    refine r_assign rfl rfl ?_
    refine awl_nil ?_
    refine x_then ?_
    refine ⟨d.length - (k + 1), ⟨38, [(0, .a (chgsA d)), (3, .own 5 4 (((d.reverse.take (k + 1)).map Chg.turn).map Chg.cs)), (4, .a (.v (.int .i64 ((d.length : Int) - 1 - ((k + 1) : Int)))))], []⟩, ⟨rfl, (Slots.cons rfl (by first | exact .refl _ | exact .nilOwn _ _ | exact .nilSl _ | exact .ownSl _ _ _  | exact SV.le.ownEq (by first | rfl | (rw [rev_step hxr, List.map_append]; rfl) | (simp <;> omega)) | exact SV.le.of_eq (by first | rfl | (rw [rev_step hxr, List.map_append]; rfl) | (simp <;> omega))) (Slots.cons rfl (by first | exact .refl _ | exact .nilOwn _ _ | exact .nilSl _ | exact .ownSl _ _ _  | exact SV.le.ownEq (by first | rfl | (rw [rev_step hxr, List.map_append]; rfl) | (simp <;> omega)) | exact SV.le.of_eq (by first | rfl | (rw [rev_step hxr, List.map_append]; rfl) | (simp <;> omega))) (Slots.cons rfl (by first | exact .refl _ | exact .nilOwn _ _ | exact .nilSl _ | exact .ownSl _ _ _  | exact SV.le.ownEq (by first | rfl | (rw [rev_step hxr, List.map_append]; rfl) | (simp <;> omega)) | exact SV.le.of_eq (by first | rfl | (rw [rev_step hxr, List.map_append]; rfl) | (simp <;> omega))) Slots.nil))), (by first | exact List.Sublist.refl _ | exact .cons_cons _ (.cons _ (.refl _)) | exact List.nil_sublist _ | exact .cons _ (.refl _) | exact .cons _ (.cons _ (.refl _)) | exact .cons _ (.cons _ (.cons _ (.refl _))) | exact .cons _ (.cons _ (.cons _ (.cons _ (.refl _)))) | exact .cons_cons _ (List.nil_sublist _))⟩, (by omega), ⟨k + 1, rfl, rfl, (by omega)⟩⟩
  ·
    have hkl : d.length ≤ k := by have := of_decide_eq_false hc0; simp at this; omega
    have hkt : d.reverse.take k = d.reverse := List.take_of_length_le (by simp; omega)
    refine awp_exit ?_
    refine x_thenE ?_
    refine x_thenE ?_
    refine x_blockE ?_
    refine x_then ?_
    refine awp_seq ?_
    refine awp_region ?_
    refine r_move rfl rfl ?_
    refine r_assign rfl rfl ?_
    refine awl_nil ?_
    refine x_then ?_
    refine awp_ret ?_
    exact ⟨(.inl rfl), _, [], (.one (by first | exact .mk rfl rfl | exact .nil rfl)), ⟨rfl, by rw [hkt]; rfl⟩, (List.nil_sublist _), (by simp)⟩

end Go.Proofs.Ytaglbmgpdoophaa.A

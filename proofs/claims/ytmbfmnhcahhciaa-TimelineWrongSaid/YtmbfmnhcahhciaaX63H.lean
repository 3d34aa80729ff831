/- Layer 63: the walk of TimelineWrong. -/
import Derived.Test.YtmbfmnhcahhciaaProg
import Derived.KernelRfl
import Derived.Test.YtmbfmnhcahhciaaX63G
namespace Go.Proofs.Ytmbfmnhcahhciaa.A
open Go Go.RowKit
set_option linter.unusedVariables false
set_option linter.unusedSimpArgs false
set_option maxRecDepth 100000

theorem run_at0 {e x : Ev} {r : List Ev} {n : Nat} (hx : (e :: r)[n]? = some x) (h2 : n ≤ runF (e :: r)) : (x.moment == e.moment) = decide (n < runF (e :: r)) := by
  rcases Nat.eq_zero_or_pos n with rfl | h
  · simp at hx; subst hx
    rw [decide_eq_true run_pos]; simp
  · exact run_at hx h h2
def WEnd (l : List Ev) (mo : Int) (now : List File) (f : Int) : Prop := (¬ f = 0 ∧ AtF l mo = (f, [])) ∨ (f = 0 ∧ AtF l mo = (0, now))
theorem drop_cons {l : List Ev} {i : Nat} {e : Ev} (h : l[i]? = some e) : l.drop i = e :: l.drop (i + 1) := by
  obtain ⟨hi, rfl⟩ := List.getElem?_eq_some_iff.1 h
  exact List.drop_eq_getElem_cons hi

set_option maxHeartbeats 2000000 in
theorem wrong_walk (l : List Ev) (mo : Int) : AC Try.prog 8 [evsA l, .v (.int .u64 mo)] [] (fun r n => n = [] ∧ r = boolA true) := by
  refine ac_of_awp (rs := [4]) (nt := 151) Try.func8 rfl rfl rfl rfl (fun w0 C0 hq => ?_)
  refine awp_seq ?_
  refine awp_region ?_
  refine r_assign rfl rfl ?_
  refine awl_nil ?_
  refine x_then ?_
  refine awp_seq ?_
  refine awp_seq ?_
  refine awp_region ?_
  refine r_call0 hq rfl rfl .nil (awake_ok) rfl TF.en11 rfl (fun r hr => ?_)
  obtain rfl := hr
  refine r_not rfl rfl ?_
  refine awl_nil ?_
  refine x_then ?_
  refine awp_cond rfl (fun hc0 => ?_) (fun hc0 => ?_)
  ·
    exfalso; exact absurd hc0 (by decide)
  ·
    refine awp_skip ?_
    refine x_then ?_
    refine awp_seq ?_
    refine awp_seq ?_
    refine awp_region ?_
    refine r_move rfl rfl ?_
    first | (refine r_lenS rfl rfl TF.sl28 rfl ?_) | (refine r_lenNil rfl TF.sl28 rfl ?_) | (refine r_lenV rfl TF.sl28 rfl ?_)
    refine r_cmp rfl rfl rfl rfl ?_
    refine awl_nil ?_
    refine x_then ?_
    refine awp_cond rfl (fun hc1 => ?_) (fun hc1 => ?_)
    ·
      refine awp_seq ?_
      refine awp_region ?_
      refine r_assign rfl rfl ?_
      refine awl_nil ?_
      refine x_then ?_
      refine awp_ret ?_
      refine x_thenR ?_
      exact ⟨(.inl rfl), _, [], (.one (by first | exact .mk rfl rfl | exact .nil rfl)), ⟨rfl, rfl⟩, (List.nil_sublist _), (by simp)⟩
    ·
      have hl : l.length ≤ 20 := by have := of_decide_eq_false hc1; simp at this; omega
      refine awp_skip ?_
      refine x_then ?_
      refine awp_seq ?_
      refine awp_seq ?_
      refine awp_region ?_
      refine r_assign rfl rfl ?_
      refine awl_nil ?_
      refine x_then ?_
      refine awp_block ?_
      refine awp_loop (fun nn0 S => ∃ k : Nat, S = ⟨151, [(0, .a (evsA l)), (1, .a (.v (.int .u64 (mo)))), (5, .a (.v (.int .i64 ((k : Int)))))], []⟩ ∧ nn0 = l.length - k ∧ (k ≤ l.length) ∧ (∀ e ∈ l.take k, BndC e.ch)) (l.length - (0)) ⟨151, [(0, .a (evsA l)), (1, .a (.v (.int .u64 (mo)))), (5, .a (.v (.int .i64 (((0) : Int)))))], []⟩ ⟨rfl, (Slots.cons rfl (by first | exact .refl _ | exact .nilOwn _ _ | exact .nilSl _ | exact .ownSl _ _ _  | exact SV.le.of_eq (by simp)) (Slots.cons rfl (by first | exact .refl _ | exact .nilOwn _ _ | exact .nilSl _ | exact .ownSl _ _ _  | exact SV.le.of_eq (by simp)) (Slots.cons rfl (by first | exact .refl _ | exact .nilOwn _ _ | exact .nilSl _ | exact .ownSl _ _ _  | exact SV.le.of_eq (by simp)) Slots.nil))), (by first | exact List.Sublist.refl _ | exact .cons_cons _ (.cons _ (.refl _)) | exact List.nil_sublist _ | exact .cons _ (.refl _) | exact .cons _ (.cons _ (.refl _)) | exact .cons _ (.cons _ (.cons _ (.refl _))) | exact .cons _ (.cons _ (.cons _ (.cons _ (.refl _)))) | exact .cons_cons _ (List.nil_sublist _))⟩ ⟨0, rfl, rfl, Nat.zero_le _, (fun e he => by simp at he)⟩ ?_
      rintro nn0 _ ⟨k, rfl, rfl, hk, hbd⟩
      refine awp_seq ?_
      refine awp_seq ?_
      refine awp_region ?_
      refine r_move rfl rfl ?_
      refine r_move rfl rfl ?_
      first | (refine r_lenS rfl rfl TF.sl28 rfl ?_) | (refine r_lenNil rfl TF.sl28 rfl ?_) | (refine r_lenV rfl TF.sl28 rfl ?_)
      refine r_cmp rfl rfl rfl rfl ?_
      refine awl_nil ?_
      refine x_then ?_
      refine awp_cond rfl (fun hc2 => ?_) (fun hc2 => ?_)
      ·
        have hltx : k < l.length := by have := of_decide_eq_true hc2; simpa using this
        obtain ⟨x, hx⟩ := get_lt hltx
        refine awp_skip ?_
        refine x_then ?_
        refine awp_seq ?_
        refine awp_block ?_
        refine awp_seq ?_
        refine awp_region ?_
        refine r_move rfl rfl ?_
        refine r_move rfl rfl ?_
        refine r_index rfl rfl rfl TF.sl28 TF.sz46 (by omega) (get_map hx) rfl ?_
        first | (refine r_fieldb rfl TF.f46_1 TF.sz44 rfl ?_) | (refine r_fieldcp rfl TF.f46_1 TF.sz44 rfl ?_)
        first | (refine r_fieldb rfl TF.f44_3 TF.sz42 rfl ?_) | (refine r_fieldcp rfl TF.f44_3 TF.sz42 rfl ?_)
        refine r_load1 rfl TF.agg42 rfl ?_
        first | (refine r_lenS rfl rfl TF.sl42 rfl ?_) | (refine r_lenNil rfl TF.sl42 rfl ?_) | (refine r_lenV rfl TF.sl42 rfl ?_)
        refine r_cmp rfl rfl rfl rfl ?_
        refine r_move rfl rfl ?_
        refine g_cases (t' := 33) rfl (fun hg33 => ?_) (fun hg33 => ?_)
        ·
          refine g_skip rfl rfl hg33 rfl ?_
          refine g_skip rfl rfl hg33 rfl ?_
          refine g_skip rfl rfl hg33 rfl ?_
          refine g_skip rfl rfl hg33 rfl ?_
          refine g_skip rfl rfl hg33 rfl ?_
          refine g_skip rfl rfl hg33 rfl ?_
          refine g_skip rfl rfl hg33 rfl ?_
          refine g_skip rfl rfl hg33 rfl ?_
          refine r_pickT rfl hg33 rfl rfl ?_
          refine r_move rfl rfl ?_
          refine g_skip rfl rfl rfl rfl ?_
          refine g_skip rfl rfl rfl rfl ?_
          refine g_skip rfl rfl rfl rfl ?_
          refine g_skip rfl rfl rfl rfl ?_
          refine g_skip rfl rfl rfl rfl ?_
          refine g_skip rfl rfl rfl rfl ?_
          refine g_skip rfl rfl rfl rfl ?_
          refine g_skip rfl rfl rfl rfl ?_
          refine r_pickT rfl rfl rfl rfl ?_
          refine awl_nil ?_
          refine x_then ?_
          refine awp_condT rfl ?_
          refine awp_seq ?_
          refine awp_region ?_
          refine r_assign rfl rfl ?_
          refine awl_nil ?_
          refine x_then ?_
          refine awp_ret ?_
          refine x_blockR ?_
          refine x_thenR ?_
          refine x_thenR ?_
          refine x_blockR ?_
          refine x_thenR ?_
          exact ⟨(.inl rfl), _, [], (.one (by first | exact .mk rfl rfl | exact .nil rfl)), ⟨rfl, rfl⟩, (List.nil_sublist _), (by simp)⟩
        ·
          have hx1 : x.ch.data.length ≤ 1000000 := by have := of_decide_eq_false hg33; simp [u8s_len] at this; omega
          refine g_run rfl rfl hg33 ?_
          refine r_move rfl rfl ?_
          refine g_run rfl rfl hg33 ?_
          refine r_move rfl rfl ?_
          refine g_run rfl rfl hg33 ?_
          refine r_index rfl rfl rfl TF.sl28 TF.sz46 (by omega) (get_map hx) rfl ?_
          refine g_run rfl rfl hg33 ?_
          first | (refine r_fieldb rfl TF.f46_1 TF.sz44 rfl ?_) | (refine r_fieldcp rfl TF.f46_1 TF.sz44 rfl ?_)
          refine g_run rfl rfl hg33 ?_
          first | (refine r_fieldb rfl TF.f44_1 TF.sz9 rfl ?_) | (refine r_fieldcp rfl TF.f44_1 TF.sz9 rfl ?_)
          refine g_run rfl rfl hg33 ?_
          refine r_load1 rfl TF.agg9 rfl ?_
          refine g_run rfl rfl hg33 ?_
          refine r_lenStr rfl TF.un9 rfl ?_
          refine g_run rfl rfl hg33 ?_
          refine r_cmp rfl rfl rfl rfl ?_
          refine r_pickF rfl hg33 rfl rfl ?_
          refine r_move rfl rfl ?_
          refine g_cases (t' := 43) rfl (fun hg43 => ?_) (fun hg43 => ?_)
          ·
            refine g_skip rfl rfl hg43 rfl ?_
            refine g_skip rfl rfl hg43 rfl ?_
            refine g_skip rfl rfl hg43 rfl ?_
            refine g_skip rfl rfl hg43 rfl ?_
            refine g_skip rfl rfl hg43 rfl ?_
            refine g_skip rfl rfl hg43 rfl ?_
            refine g_skip rfl rfl hg43 rfl ?_
            refine g_skip rfl rfl hg43 rfl ?_
            refine r_pickT rfl hg43 rfl rfl ?_
            refine awl_nil ?_
            refine x_then ?_
            refine awp_condT rfl ?_
            refine awp_seq ?_
            refine awp_region ?_
            refine r_assign rfl rfl ?_
            refine awl_nil ?_
            refine x_then ?_
            refine awp_ret ?_
            refine x_blockR ?_
            refine x_thenR ?_
            refine x_thenR ?_
            refine x_blockR ?_
            refine x_thenR ?_
            exact ⟨(.inl rfl), _, [], (.one (by first | exact .mk rfl rfl | exact .nil rfl)), ⟨rfl, rfl⟩, (List.nil_sublist _), (by simp)⟩
          ·
            have hx2 : x.ch.name.size ≤ 1000000 := by have := of_decide_eq_false hg43; omega
            refine g_run rfl rfl hg43 ?_
            refine r_move rfl rfl ?_
            refine g_run rfl rfl hg43 ?_
            refine r_move rfl rfl ?_
            refine g_run rfl rfl hg43 ?_
            refine r_index rfl rfl rfl TF.sl28 TF.sz46 (by omega) (get_map hx) rfl ?_
            refine g_run rfl rfl hg43 ?_
            first | (refine r_fieldb rfl TF.f46_1 TF.sz44 rfl ?_) | (refine r_fieldcp rfl TF.f46_1 TF.sz44 rfl ?_)
            refine g_run rfl rfl hg43 ?_
            first | (refine r_fieldb rfl TF.f44_2 TF.sz9 rfl ?_) | (refine r_fieldcp rfl TF.f44_2 TF.sz9 rfl ?_)
            refine g_run rfl rfl hg43 ?_
            refine r_load1 rfl TF.agg9 rfl ?_
            refine g_run rfl rfl hg43 ?_
            refine r_lenStr rfl TF.un9 rfl ?_
            refine g_run rfl rfl hg43 ?_
            refine r_cmp rfl rfl rfl rfl ?_
            refine r_pickF rfl hg43 rfl rfl ?_
            refine awl_nil ?_
            refine x_then ?_
            refine awp_cond rfl (fun hc3 => ?_) (fun hc3 => ?_)
            ·
              refine awp_seq ?_
              refine awp_region ?_
              refine r_assign rfl rfl ?_
              refine awl_nil ?_
              refine x_then ?_
              refine awp_ret ?_
              refine x_blockR ?_
              refine x_thenR ?_
              refine x_thenR ?_
              refine x_blockR ?_
              refine x_thenR ?_
              exact ⟨(.inl rfl), _, [], (.one (by first | exact .mk rfl rfl | exact .nil rfl)), ⟨rfl, rfl⟩, (List.nil_sublist _), (by simp)⟩
            ·
              have hx3 : x.ch.to.size ≤ 1000000 := by have := of_decide_eq_false hc3; omega
              refine awp_skip ?_
              refine x_block ?_
              refine x_then ?_
              refine awp_region ?_
              refine r_move rfl rfl ?_
              refine r_ari _ rfl rfl rfl (wrap_id (by first | omega | (simp; omega))) rfl ?_
              refine r_assign rfl rfl ?_
              refine awl_nil ?_
              refine x_then ?_
              refine ⟨l.length - (k + 1), ⟨151, [(0, .a (evsA l)), (1, .a (.v (.int .u64 (mo)))), (5, .a (.v (.int .i64 (((k + 1) : Int)))))], []⟩, ⟨rfl, (Slots.cons rfl (by first | exact .refl _ | exact .nilOwn _ _ | exact .nilSl _ | exact .ownSl _ _ _  | exact SV.le.of_eq (by simp)) (Slots.cons rfl (by first | exact .refl _ | exact .nilOwn _ _ | exact .nilSl _ | exact .ownSl _ _ _  | exact SV.le.of_eq (by simp)) (Slots.cons rfl (by first | exact .refl _ | exact .nilOwn _ _ | exact .nilSl _ | exact .ownSl _ _ _  | exact SV.le.of_eq (by simp)) Slots.nil))), (by first | exact List.Sublist.refl _ | exact .cons_cons _ (.cons _ (.refl _)) | exact List.nil_sublist _ | exact .cons _ (.refl _) | exact .cons _ (.cons _ (.refl _)) | exact .cons _ (.cons _ (.cons _ (.refl _))) | exact .cons _ (.cons _ (.cons _ (.cons _ (.refl _)))) | exact .cons_cons _ (List.nil_sublist _))⟩, (by omega), ⟨k + 1, rfl, rfl, (by omega), (all_takeS hx hbd ⟨hx2, hx3, hx1⟩)⟩⟩
      ·
        have hge : l.length ≤ k := by have := of_decide_eq_false hc2; simp at this; omega
        have hb := all_end hge hbd
        refine awp_exit ?_
        refine x_thenE ?_
        refine x_thenE ?_
        refine x_blockE ?_
        refine x_then ?_
        refine awp_seq ?_
        refine awp_region ?_
        refine r_move rfl rfl ?_
        refine r_move rfl rfl ?_
        refine r_call0 hq rfl rfl (.cons (.ev rfl rfl) (.cons (.ev rfl rfl) .nil)) (tat_ok l mo (by omega) hb) rfl TF.en23 rfl (fun r hr => ?_)
        obtain rfl := hr
        refine r_move rfl rfl ?_
        refine r_extract rfl rfl rfl ?_
        refine r_extract rfl rfl rfl ?_
        refine r_assign rfl rfl ?_
        refine r_assign rfl rfl ?_
        refine awl_nil ?_
        refine x_then ?_
        refine awp_seq ?_
        refine awp_region ?_
        refine r_assign rfl rfl ?_
        refine awl_nil ?_
        refine x_then ?_
        refine awp_seq ?_
        refine awp_region ?_
        refine r_assign rfl rfl ?_
        refine awl_nil ?_
        refine x_then ?_
        refine awp_seq ?_
        refine awp_seq ?_
        refine awp_region ?_
        refine r_assign rfl rfl ?_
        refine awl_nil ?_
        refine x_then ?_
        refine awp_block ?_
        refine awp_loop (fun nn0 S => ∃ i : Nat, S = ⟨151, [(0, .a (evsA l)), (1, .a (.v (.int .u64 (mo)))), (6, .a (files (AtF l mo).2)), (7, .a (.v (.int .i64 ((AtF l mo).1)))), (8, .a (files [])), (9, .a (.v (.int .i64 (0)))), (10, .a (.v (.int .i64 ((i : Int)))))], []⟩ ∧ nn0 = l.length - i ∧ (0 < i) ∧ (∀ j, 0 < j → j < i → ∀ x y, l[j - 1]? = some x → l[j]? = some y → x.moment ≤ y.moment)) (l.length - (1)) ⟨151, [(0, .a (evsA l)), (1, .a (.v (.int .u64 (mo)))), (6, .a (files (AtF l mo).2)), (7, .a (.v (.int .i64 ((AtF l mo).1)))), (8, .a (files [])), (9, .a (.v (.int .i64 (0)))), (10, .a (.v (.int .i64 (((1) : Int)))))], []⟩ ⟨rfl, (Slots.cons rfl (by first | exact .refl _ | exact .nilOwn _ _ | exact .nilSl _ | exact .ownSl _ _ _  | exact SV.le.of_eq (by simp)) (Slots.cons rfl (by first | exact .refl _ | exact .nilOwn _ _ | exact .nilSl _ | exact .ownSl _ _ _  | exact SV.le.of_eq (by simp)) (Slots.cons rfl (by first | exact .refl _ | exact .nilOwn _ _ | exact .nilSl _ | exact .ownSl _ _ _  | exact SV.le.of_eq (by simp)) (Slots.cons rfl (by first | exact .refl _ | exact .nilOwn _ _ | exact .nilSl _ | exact .ownSl _ _ _  | exact SV.le.of_eq (by simp)) (Slots.cons rfl (by first | exact .refl _ | exact .nilOwn _ _ | exact .nilSl _ | exact .ownSl _ _ _  | exact SV.le.of_eq (by simp)) (Slots.cons rfl (by first | exact .refl _ | exact .nilOwn _ _ | exact .nilSl _ | exact .ownSl _ _ _  | exact SV.le.of_eq (by simp)) (Slots.cons rfl (by first | exact .refl _ | exact .nilOwn _ _ | exact .nilSl _ | exact .ownSl _ _ _  | exact SV.le.of_eq (by simp)) Slots.nil))))))), (by first | exact List.Sublist.refl _ | exact .cons_cons _ (.cons _ (.refl _)) | exact List.nil_sublist _ | exact .cons _ (.refl _) | exact .cons _ (.cons _ (.refl _)) | exact .cons _ (.cons _ (.cons _ (.refl _))) | exact .cons _ (.cons _ (.cons _ (.cons _ (.refl _)))) | exact .cons_cons _ (List.nil_sublist _))⟩ ⟨1, rfl, rfl, (by omega), (fun j h1 h2 => by omega)⟩ ?_
        rintro nn0 _ ⟨i, rfl, rfl, hi1, hall⟩
        refine awp_seq ?_
        refine awp_seq ?_
        refine awp_region ?_
        refine r_move rfl rfl ?_
        refine r_move rfl rfl ?_
        first | (refine r_lenS rfl rfl TF.sl28 rfl ?_) | (refine r_lenNil rfl TF.sl28 rfl ?_) | (refine r_lenV rfl TF.sl28 rfl ?_)
        refine r_cmp rfl rfl rfl rfl ?_
        refine awl_nil ?_
        refine x_then ?_
        refine awp_cond rfl (fun hc4 => ?_) (fun hc4 => ?_)
        ·
          have hlti : i < l.length := by have := of_decide_eq_true hc4; simp at this; omega
          obtain ⟨y, hy⟩ := get_lt hlti
          obtain ⟨x, hx⟩ := get_lt (show i - 1 < l.length by omega)
          refine awp_skip ?_
          refine x_then ?_
          refine awp_seq ?_
          refine awp_block ?_
          refine awp_seq ?_
          refine awp_drawS [65, 66, 67, 68, 69, 70, 71, 72, 73, 74, 75] [_, _, _, _, _, _, _, _, _, _, _] [] [] TF.mixed rfl rfl rfl ⟨⟨⟨⟨⟨⟨⟨⟨⟨⟨⟨trivial
            , ⟨_, rfl, fun sl hd hr ho => by
                refine r_move (hr 0 _ rfl rfl rfl) rfl ?_
                exact awl_nil ⟨rfl, post_put⟩⟩⟩
            , ⟨_, rfl, fun sl hd hr ho => by
                refine r_move (hr 10 _ rfl rfl rfl) rfl ?_
                exact awl_nil ⟨rfl, post_put⟩⟩⟩
            , ⟨_, rfl, fun sl hd hr ho => by
                refine r_index (hd 0 _ rfl rfl rfl) rfl (hd 1 _ rfl rfl rfl) TF.sl28 TF.sz46 (by omega) (get_map hy) rfl ?_
                exact awl_nil ⟨rfl, post_put⟩⟩⟩
            , ⟨_, rfl, fun sl hd hr ho => by
                first | (refine r_fieldb (hd 2 _ rfl rfl rfl) TF.f46_0 TF.sz30 rfl ?_) | (refine r_fieldcp (hd 2 _ rfl rfl rfl) TF.f46_0 TF.sz30 rfl ?_)
                exact awl_nil ⟨rfl, post_put⟩⟩⟩
            , ⟨_, rfl, fun sl hd hr ho => by
                refine r_load1 (hd 3 _ rfl rfl rfl) TF.agg30 rfl ?_
                exact awl_nil ⟨rfl, post_put⟩⟩⟩
            , ⟨_, rfl, fun sl hd hr ho => by
                refine r_move (hr 0 _ rfl rfl rfl) rfl ?_
                exact awl_nil ⟨rfl, post_put⟩⟩⟩
            , ⟨_, rfl, fun sl hd hr ho => by
                refine r_move (hr 10 _ rfl rfl rfl) rfl ?_
                exact awl_nil ⟨rfl, post_put⟩⟩⟩
            , ⟨_, rfl, fun sl hd hr ho => by
                refine r_ari _ (hd 6 _ rfl rfl rfl) rfl rfl (wrap_id (by first | omega | (simp; omega))) rfl ?_
                exact awl_nil ⟨rfl, post_put⟩⟩⟩
            , ⟨_, rfl, fun sl hd hr ho => by
                refine r_index (hd 5 _ rfl rfl rfl) rfl (hd 7 _ rfl rfl rfl) TF.sl28 TF.sz46 (by omega) (by rw [show ((i : Int) - 1).toNat = i - 1 by omega]; exact get_map hx) rfl ?_
                exact awl_nil ⟨rfl, post_put⟩⟩⟩
            , ⟨_, rfl, fun sl hd hr ho => by
                first | (refine r_fieldb (hd 8 _ rfl rfl rfl) TF.f46_0 TF.sz30 rfl ?_) | (refine r_fieldcp (hd 8 _ rfl rfl rfl) TF.f46_0 TF.sz30 rfl ?_)
                exact awl_nil ⟨rfl, post_put⟩⟩⟩
            , ⟨_, rfl, fun sl hd hr ho => by
                refine r_load1 (hd 9 _ rfl rfl rfl) TF.agg30 rfl ?_
                exact awl_nil ⟨rfl, post_put⟩⟩⟩
            (by rfl) ?_
          refine r_cmp rfl rfl rfl rfl ?_
          refine awl_nil ?_
          refine x_then ?_
          refine awp_cond rfl (fun hc5 => ?_) (fun hc5 => ?_)
          ·
            have hat : AtF l mo = (15, []) := by unfold AtF; rw [sorted_bad hi1 hx hy (of_decide_eq_true hc5)]; rfl
            rw [hat]
            refine awp_seq ?_
            refine awp_region ?_
            refine r_move rfl rfl ?_
            refine r_cmp rfl rfl rfl rfl ?_
            refine r_move rfl rfl ?_
            refine g_run rfl rfl rfl ?_
            refine r_move rfl rfl ?_
            refine g_run rfl rfl rfl ?_
            first | (refine r_lenS rfl rfl TF.sl31 rfl ?_) | (refine r_lenNil rfl TF.sl31 rfl ?_) | (refine r_lenV rfl TF.sl31 rfl ?_)
            refine g_run rfl rfl rfl ?_
            refine r_cmp rfl rfl rfl rfl ?_
            refine r_pickT rfl rfl rfl rfl ?_
            refine r_assign rfl rfl ?_
            refine awl_nil ?_
            refine x_then ?_
            refine awp_ret ?_
            refine x_blockR ?_
            refine x_thenR ?_
            refine x_thenR ?_
            refine x_blockR ?_
            refine x_thenR ?_
            exact ⟨(.inl rfl), _, [], (.one (by first | exact .mk rfl rfl | exact .nil rfl)), ⟨rfl, rfl⟩, (List.nil_sublist _), (by simp)⟩
          ·
            have hle : x.moment ≤ y.moment := by have := of_decide_eq_false hc5; omega
            refine awp_skip ?_
            refine x_block ?_
            refine x_then ?_
            refine awp_region ?_
            refine r_move rfl rfl ?_
            refine r_ari _ rfl rfl rfl (wrap_id (by first | omega | (simp; omega))) rfl ?_
            refine r_assign rfl rfl ?_
            refine awl_nil ?_
            refine x_then ?_
            refine ⟨l.length - (i + 1), ⟨151, [(0, .a (evsA l)), (1, .a (.v (.int .u64 (mo)))), (6, .a (files (AtF l mo).2)), (7, .a (.v (.int .i64 ((AtF l mo).1)))), (8, .a (files [])), (9, .a (.v (.int .i64 (0)))), (10, .a (.v (.int .i64 (((i + 1) : Int)))))], []⟩, ⟨rfl, (Slots.cons rfl (by first | exact .refl _ | exact .nilOwn _ _ | exact .nilSl _ | exact .ownSl _ _ _  | exact SV.le.of_eq (by simp)) (Slots.cons rfl (by first | exact .refl _ | exact .nilOwn _ _ | exact .nilSl _ | exact .ownSl _ _ _  | exact SV.le.of_eq (by simp)) (Slots.cons rfl (by first | exact .refl _ | exact .nilOwn _ _ | exact .nilSl _ | exact .ownSl _ _ _  | exact SV.le.of_eq (by simp)) (Slots.cons rfl (by first | exact .refl _ | exact .nilOwn _ _ | exact .nilSl _ | exact .ownSl _ _ _  | exact SV.le.of_eq (by simp)) (Slots.cons rfl (by first | exact .refl _ | exact .nilOwn _ _ | exact .nilSl _ | exact .ownSl _ _ _  | exact SV.le.of_eq (by simp)) (Slots.cons rfl (by first | exact .refl _ | exact .nilOwn _ _ | exact .nilSl _ | exact .ownSl _ _ _  | exact SV.le.of_eq (by simp)) (Slots.cons rfl (by first | exact .refl _ | exact .nilOwn _ _ | exact .nilSl _ | exact .ownSl _ _ _  | exact SV.le.of_eq (by simp)) Slots.nil))))))), (by first | exact List.Sublist.refl _ | exact .cons_cons _ (.cons _ (.refl _)) | exact List.nil_sublist _ | exact .cons _ (.refl _) | exact .cons _ (.cons _ (.refl _)) | exact .cons _ (.cons _ (.cons _ (.refl _))) | exact .cons _ (.cons _ (.cons _ (.cons _ (.refl _)))) | exact .cons_cons _ (List.nil_sublist _))⟩, (by omega), ⟨i + 1, rfl, rfl, (by omega), (fun j h1 h2 x' y' hx' hy' => by rcases Nat.lt_succ_iff_lt_or_eq.1 h2 with h | rfl; exact hall j h1 h x' y' hx' hy'; rw [hx] at hx'; rw [hy] at hy'; cases hx'; cases hy'; exact hle)⟩⟩
        ·
          have hgei : l.length ≤ i := by have := of_decide_eq_false hc4; simp at this; omega
          have hss := sorted_good (fun j h0 h1 => hall j h0 (by omega))
          have hin0 : AtF l mo = atLoop l.length [] l mo := by unfold AtF; rw [if_pos hss]
          refine awp_exit ?_
          refine x_thenE ?_
          refine x_thenE ?_
          refine x_blockE ?_
          refine x_then ?_
          refine awp_cut (fun S => ∃ now : List File, ∃ f : Int, S = ⟨151, [(6, .a (files (AtF l mo).2)), (7, .a (.v (.int .i64 ((AtF l mo).1)))), (8, .a (files now)), (9, .a (.v (.int .i64 (f))))], []⟩ ∧ (WEnd l mo now f) ∧ (now.length ≤ 100)) ?_ ?_
          ·
            refine awp_seq ?_
            refine awp_region ?_
            refine r_assign rfl rfl ?_
            refine awl_nil ?_
            refine x_then ?_
            refine awp_block ?_
            refine awp_loop (fun nn0 S => ∃ i : Nat, ∃ now : List File, ∃ f : Int, S = ⟨151, [(0, .a (evsA l)), (1, .a (.v (.int .u64 (mo)))), (6, .a (files (AtF l mo).2)), (7, .a (.v (.int .i64 ((AtF l mo).1)))), (8, .a (files now)), (9, .a (.v (.int .i64 (f)))), (11, .a (.v (.int .i64 ((i : Int)))))], []⟩ ∧ nn0 = l.length - i ∧ (i ≤ l.length) ∧ ((f = 0 ∧ AtF l mo = atLoop (l.drop i).length now (l.drop i) mo ∧ BndL now ∧ now.length ≤ i) ∨ (¬ f = 0 ∧ AtF l mo = (f, []) ∧ now.length ≤ i))) (l.length - (0)) ⟨151, [(0, .a (evsA l)), (1, .a (.v (.int .u64 (mo)))), (6, .a (files (AtF l mo).2)), (7, .a (.v (.int .i64 ((AtF l mo).1)))), (8, .a (files ([]))), (9, .a (.v (.int .i64 ((0))))), (11, .a (.v (.int .i64 (((0) : Int)))))], []⟩ ⟨rfl, (Slots.cons rfl (by first | exact .refl _ | exact .nilOwn _ _ | exact .nilSl _ | exact .ownSl _ _ _  | exact SV.le.of_eq (by simp)) (Slots.cons rfl (by first | exact .refl _ | exact .nilOwn _ _ | exact .nilSl _ | exact .ownSl _ _ _  | exact SV.le.of_eq (by simp)) (Slots.cons rfl (by first | exact .refl _ | exact .nilOwn _ _ | exact .nilSl _ | exact .ownSl _ _ _  | exact SV.le.of_eq (by simp)) (Slots.cons rfl (by first | exact .refl _ | exact .nilOwn _ _ | exact .nilSl _ | exact .ownSl _ _ _  | exact SV.le.of_eq (by simp)) (Slots.cons rfl (by first | exact .refl _ | exact .nilOwn _ _ | exact .nilSl _ | exact .ownSl _ _ _  | exact SV.le.of_eq (by simp)) (Slots.cons rfl (by first | exact .refl _ | exact .nilOwn _ _ | exact .nilSl _ | exact .ownSl _ _ _  | exact SV.le.of_eq (by simp)) (Slots.cons rfl (by first | exact .refl _ | exact .nilOwn _ _ | exact .nilSl _ | exact .ownSl _ _ _  | exact SV.le.of_eq (by simp)) Slots.nil))))))), (by first | exact List.Sublist.refl _ | exact .cons_cons _ (.cons _ (.refl _)) | exact List.nil_sublist _ | exact .cons _ (.refl _) | exact .cons _ (.cons _ (.refl _)) | exact .cons _ (.cons _ (.cons _ (.refl _))) | exact .cons _ (.cons _ (.cons _ (.cons _ (.refl _)))) | exact .cons_cons _ (List.nil_sublist _))⟩ ⟨0, [], 0, rfl, rfl, Nat.zero_le _, (.inl ⟨rfl, hin0, (fun f hf => by simp at hf), by simp⟩)⟩ ?_
            rintro nn0 _ ⟨i, now, f, rfl, rfl, hi, hinv⟩
            refine awp_seq ?_
            refine awp_seq ?_
            refine awp_region ?_
            refine r_move rfl rfl ?_
            refine r_move rfl rfl ?_
            first | (refine r_lenS rfl rfl TF.sl28 rfl ?_) | (refine r_lenNil rfl TF.sl28 rfl ?_) | (refine r_lenV rfl TF.sl28 rfl ?_)
            refine r_cmp rfl rfl rfl rfl ?_
            refine r_move rfl rfl ?_
            refine g_cases (t' := 88) rfl (fun hg88 => ?_) (fun hg88 => ?_)
            ·
              have hlti : i < l.length := by have := of_decide_eq_true hg88; simp at this; omega
              obtain ⟨e, he⟩ := get_lt hlti
              have hdc := drop_cons he
              refine g_run rfl rfl hg88 ?_
              refine r_move rfl rfl ?_
              refine g_run rfl rfl hg88 ?_
              refine r_cmp rfl rfl rfl rfl ?_
              refine r_pickT rfl hg88 rfl rfl ?_
              refine awl_nil ?_
              refine x_then ?_
              refine awp_cond rfl (fun hc6 => ?_) (fun hc6 => ?_)
              ·
                have hf0 : f = 0 := by simpa using hc6
                subst hf0
                obtain ⟨hin, hnb, hnl⟩ : AtF l mo = atLoop (l.drop i).length now (l.drop i) mo ∧ BndL now ∧ now.length ≤ i := by rcases hinv with ⟨_, h1, h2, h3⟩ | ⟨h, _⟩; exact ⟨h1, h2, h3⟩; exact absurd rfl h
                refine awp_skip ?_
                refine x_then ?_
                refine awp_block ?_
                refine awp_seq ?_
                refine awp_region ?_
                refine r_assign rfl rfl ?_
                refine awl_nil ?_
                refine x_then ?_
                refine awp_seq ?_
                refine awp_region ?_
                refine r_move rfl rfl ?_
                refine r_assign rfl rfl ?_
                refine awl_nil ?_
                refine x_then ?_
                refine awp_seq ?_
                refine awp_block ?_
                refine awp_loop (fun nn0 S => ∃ n : Nat, S = ⟨151, [(0, .a (evsA l)), (1, .a (.v (.int .u64 (mo)))), (6, .a (files (AtF l mo).2)), (7, .a (.v (.int .i64 ((AtF l mo).1)))), (8, .a (files now)), (9, .a (.v (.int .i64 (0)))), (11, .a (.v (.int .i64 ((i : Int))))), (12, .own 12 4 ((((l.drop i).take n).map (·.ch)).map FC.cs)), (13, .a (.v (.int .i64 (((i + n : Nat) : Int)))))], []⟩ ∧ nn0 = l.length - n ∧ (n ≤ runF (l.drop i))) (l.length - (0)) ⟨151, [(0, .a (evsA l)), (1, .a (.v (.int .u64 (mo)))), (6, .a (files (AtF l mo).2)), (7, .a (.v (.int .i64 ((AtF l mo).1)))), (8, .a (files now)), (9, .a (.v (.int .i64 (0)))), (11, .a (.v (.int .i64 ((i : Int))))), (12, .own 12 4 ((((l.drop i).take (0)).map (·.ch)).map FC.cs)), (13, .a (.v (.int .i64 (((i + (0) : Nat) : Int)))))], []⟩ ⟨rfl, (Slots.cons rfl (by first | exact .refl _ | exact .nilOwn _ _ | exact .nilSl _ | exact .ownSl _ _ _  | exact SV.le.ownEq (by simp) | exact SV.le.of_eq (by simp)) (Slots.cons rfl (by first | exact .refl _ | exact .nilOwn _ _ | exact .nilSl _ | exact .ownSl _ _ _  | exact SV.le.ownEq (by simp) | exact SV.le.of_eq (by simp)) (Slots.cons rfl (by first | exact .refl _ | exact .nilOwn _ _ | exact .nilSl _ | exact .ownSl _ _ _  | exact SV.le.ownEq (by simp) | exact SV.le.of_eq (by simp)) (Slots.cons rfl (by first | exact .refl _ | exact .nilOwn _ _ | exact .nilSl _ | exact .ownSl _ _ _  | exact SV.le.ownEq (by simp) | exact SV.le.of_eq (by simp)) (Slots.cons rfl (by first | exact .refl _ | exact .nilOwn _ _ | exact .nilSl _ | exact .ownSl _ _ _  | exact SV.le.ownEq (by simp) | exact SV.le.of_eq (by simp)) (Slots.cons rfl (by first | exact .refl _ | exact .nilOwn _ _ | exact .nilSl _ | exact .ownSl _ _ _  | exact SV.le.ownEq (by simp) | exact SV.le.of_eq (by simp)) (Slots.cons rfl (by first | exact .refl _ | exact .nilOwn _ _ | exact .nilSl _ | exact .ownSl _ _ _  | exact SV.le.ownEq (by simp) | exact SV.le.of_eq (by simp)) (Slots.cons rfl (by first | exact .refl _ | exact .nilOwn _ _ | exact .nilSl _ | exact .ownSl _ _ _  | exact SV.le.ownEq (by simp) | exact SV.le.of_eq (by simp)) (Slots.cons rfl (by first | exact .refl _ | exact .nilOwn _ _ | exact .nilSl _ | exact .ownSl _ _ _  | exact SV.le.ownEq (by simp) | exact SV.le.of_eq (by simp)) Slots.nil))))))))), (by first | exact List.Sublist.refl _ | exact .cons_cons _ (.cons _ (.refl _)) | exact List.nil_sublist _ | exact .cons _ (.refl _) | exact .cons _ (.cons _ (.refl _)) | exact .cons _ (.cons _ (.cons _ (.refl _))) | exact .cons _ (.cons _ (.cons _ (.cons _ (.refl _)))) | exact .cons_cons _ (List.nil_sublist _))⟩ ⟨0, rfl, rfl, (Nat.zero_le _)⟩ ?_
                rintro nn0 _ ⟨n, rfl, rfl, hn⟩
                have hrl : n ≤ l.length - i := by have := run_len (l.drop i); rw [List.length_drop] at this; omega
                refine awp_seq ?_
                refine awp_seq ?_
                rcases Bool.eq_false_or_eq_true (decide (((i + n : Nat) : Int) < ((l.map Ev.cs).length : Int))) with hg97 | hg97
                ·
                  have hltk : i + n < l.length := by have := of_decide_eq_true hg97; rw [List.length_map] at this; omega
                  obtain ⟨x, hx⟩ := get_lt hltk
                  have hxd : (l.drop i)[n]? = some x := by rw [List.getElem?_drop]; exact hx
                  refine awp_drawS [93, 94, 95, 96, 97, 98, 99, 100, 101, 102, 103, 104, 105, 106, 107] [_, _, _, _, _, _, _, _, _, _, _, _, _, _, _] [] [] TF.mixed rfl rfl rfl ⟨⟨⟨⟨⟨⟨⟨⟨⟨⟨⟨⟨⟨⟨⟨trivial
                    , ⟨_, rfl, fun sl hd hr ho => by
                        refine r_move (hr 13 _ rfl rfl rfl) rfl ?_
                        exact awl_nil ⟨rfl, post_put⟩⟩⟩
                    , ⟨_, rfl, fun sl hd hr ho => by
                        refine r_move (hr 0 _ rfl rfl rfl) rfl ?_
                        exact awl_nil ⟨rfl, post_put⟩⟩⟩
                    , ⟨_, rfl, fun sl hd hr ho => by
                        first | (refine r_lenS (hd 1 _ rfl rfl rfl) rfl TF.sl28 rfl ?_) | (refine r_lenNil (hd 1 _ rfl rfl rfl) TF.sl28 rfl ?_) | (refine r_lenV (hd 1 _ rfl rfl rfl) TF.sl28 rfl ?_)
                        exact awl_nil ⟨rfl, post_put⟩⟩⟩
                    , ⟨_, rfl, fun sl hd hr ho => by
                        refine r_cmp (hd 0 _ rfl rfl rfl) (hd 2 _ rfl rfl rfl) rfl rfl ?_
                        exact awl_nil ⟨rfl, post_put⟩⟩⟩
                    , ⟨_, rfl, fun sl hd hr ho => by
                        refine r_move (hd 3 _ rfl rfl rfl) rfl ?_
                        exact awl_nil ⟨rfl, post_put⟩⟩⟩
                    , ⟨_, rfl, fun sl hd hr ho => by
                        refine g_run rfl (hd 4 _ rfl rfl rfl) hg97 ?_
                        refine r_move (hr 0 _ rfl rfl rfl) rfl ?_
                        exact awl_nil ⟨rfl, post_put⟩⟩⟩
                    , ⟨_, rfl, fun sl hd hr ho => by
                        refine g_run rfl (hd 4 _ rfl rfl rfl) hg97 ?_
                        refine r_move (hr 13 _ rfl rfl rfl) rfl ?_
                        exact awl_nil ⟨rfl, post_put⟩⟩⟩
                    , ⟨_, rfl, fun sl hd hr ho => by
                        refine g_run rfl (hd 4 _ rfl rfl rfl) hg97 ?_
                        refine r_index (hd 5 _ rfl rfl rfl) rfl (hd 6 _ rfl rfl rfl) TF.sl28 TF.sz46 (by omega) (get_map hx) rfl ?_
                        exact awl_nil ⟨rfl, post_put⟩⟩⟩
                    , ⟨_, rfl, fun sl hd hr ho => by
                        refine g_run rfl (hd 4 _ rfl rfl rfl) hg97 ?_
                        first | (refine r_fieldb (hd 7 _ rfl rfl rfl) TF.f46_0 TF.sz30 rfl ?_) | (refine r_fieldcp (hd 7 _ rfl rfl rfl) TF.f46_0 TF.sz30 rfl ?_)
                        exact awl_nil ⟨rfl, post_put⟩⟩⟩
                    , ⟨_, rfl, fun sl hd hr ho => by
                        refine g_run rfl (hd 4 _ rfl rfl rfl) hg97 ?_
                        refine r_load1 (hd 8 _ rfl rfl rfl) TF.agg30 rfl ?_
                        exact awl_nil ⟨rfl, post_put⟩⟩⟩
                    , ⟨_, rfl, fun sl hd hr ho => by
                        refine g_run rfl (hd 4 _ rfl rfl rfl) hg97 ?_
                        refine r_move (hr 0 _ rfl rfl rfl) rfl ?_
                        exact awl_nil ⟨rfl, post_put⟩⟩⟩
                    , ⟨_, rfl, fun sl hd hr ho => by
                        refine g_run rfl (hd 4 _ rfl rfl rfl) hg97 ?_
                        refine r_move (hr 11 _ rfl rfl rfl) rfl ?_
                        exact awl_nil ⟨rfl, post_put⟩⟩⟩
                    , ⟨_, rfl, fun sl hd hr ho => by
                        refine g_run rfl (hd 4 _ rfl rfl rfl) hg97 ?_
                        refine r_index (hd 10 _ rfl rfl rfl) rfl (hd 11 _ rfl rfl rfl) TF.sl28 TF.sz46 (by omega) (get_map he) rfl ?_
                        exact awl_nil ⟨rfl, post_put⟩⟩⟩
                    , ⟨_, rfl, fun sl hd hr ho => by
                        refine g_run rfl (hd 4 _ rfl rfl rfl) hg97 ?_
                        first | (refine r_fieldb (hd 12 _ rfl rfl rfl) TF.f46_0 TF.sz30 rfl ?_) | (refine r_fieldcp (hd 12 _ rfl rfl rfl) TF.f46_0 TF.sz30 rfl ?_)
                        exact awl_nil ⟨rfl, post_put⟩⟩⟩
                    , ⟨_, rfl, fun sl hd hr ho => by
                        refine g_run rfl (hd 4 _ rfl rfl rfl) hg97 ?_
                        refine r_load1 (hd 13 _ rfl rfl rfl) TF.agg30 rfl ?_
                        exact awl_nil ⟨rfl, post_put⟩⟩⟩
                    (by rfl) ?_
                  refine g_run rfl rfl hg97 ?_
                  refine r_cmp rfl rfl rfl rfl ?_
                  refine r_pickT rfl hg97 rfl rfl ?_
                  refine awl_nil ?_
                  refine x_then ?_
                  refine awp_cond rfl (fun hc7 => ?_) (fun hc7 => ?_)
                  ·
                    have hlt : n < runF (l.drop i) := by have h := run_at0 (hdc ▸ hxd) (hdc ▸ hn); rw [hc7] at h; rw [hdc]; exact of_decide_eq_true h.symm
                    refine awp_skip ?_
                    refine x_then ?_
                    refine awp_block ?_
                    refine awp_seq ?_
                    refine awp_region ?_
                    refine r_move rfl rfl ?_
                    refine r_move rfl rfl ?_
                    refine r_move rfl rfl ?_
                    refine r_index rfl rfl rfl TF.sl28 TF.sz46 (by omega) (get_map hx) rfl ?_
                    first | (refine r_fieldb rfl TF.f46_1 TF.sz44 rfl ?_) | (refine r_fieldcp rfl TF.f46_1 TF.sz44 rfl ?_)
                    refine r_loadA rfl TF.agg44 TF.sz44 rfl rfl ?_
                    refine r_lit 116 (parts := [(0, .tmp 115)]) rfl TF.sl39 TF.sz44 TF.zraw44 rfl rfl rfl rfl rfl rfl rfl ?_
                    refine r_append 12 rfl (by first | exact .own _ | exact .nil) rfl (by first | exact .sl _ | exact .own _ _ | exact .nil) TF.sl39 TF.sz44 (by decide) TF.by44 TF.zlen44 (by simp [chunks] <;> omega) (by simp [chunks] <;> omega) rfl ?_
                    refine r_assign rfl rfl ?_
                    refine awl_nil ?_
                    refine x_then ?_
                    refine awp_region ?_
                    refine r_move rfl rfl ?_
                    refine r_ari _ rfl rfl rfl (wrap_id (by first | omega | (simp; omega))) rfl ?_
                    refine r_assign rfl rfl ?_
                    refine awl_nil ?_
                    refine x_block ?_
                    refine x_then ?_
                    refine ⟨l.length - (n + 1), ⟨151, [(0, .a (evsA l)), (1, .a (.v (.int .u64 (mo)))), (6, .a (files (AtF l mo).2)), (7, .a (.v (.int .i64 ((AtF l mo).1)))), (8, .a (files now)), (9, .a (.v (.int .i64 (0)))), (11, .a (.v (.int .i64 ((i : Int))))), (12, .own 12 4 ((((l.drop i).take (n + 1)).map (·.ch)).map FC.cs)), (13, .a (.v (.int .i64 (((i + (n + 1) : Nat) : Int)))))], []⟩, ⟨rfl, (Slots.cons rfl (by first | exact .refl _ | exact .nilOwn _ _ | exact .nilSl _ | exact .ownSl _ _ _  | exact SV.le.ownEq (by first | rfl | (rw [takeS hxd, List.map_append, List.map_append]; rfl)) | exact SV.le.of_eq (by first | rfl | (rw [takeS hxd, List.map_append, List.map_append]; rfl))) (Slots.cons rfl (by first | exact .refl _ | exact .nilOwn _ _ | exact .nilSl _ | exact .ownSl _ _ _  | exact SV.le.ownEq (by first | rfl | (rw [takeS hxd, List.map_append, List.map_append]; rfl)) | exact SV.le.of_eq (by first | rfl | (rw [takeS hxd, List.map_append, List.map_append]; rfl))) (Slots.cons rfl (by first | exact .refl _ | exact .nilOwn _ _ | exact .nilSl _ | exact .ownSl _ _ _  | exact SV.le.ownEq (by first | rfl | (rw [takeS hxd, List.map_append, List.map_append]; rfl)) | exact SV.le.of_eq (by first | rfl | (rw [takeS hxd, List.map_append, List.map_append]; rfl))) (Slots.cons rfl (by first | exact .refl _ | exact .nilOwn _ _ | exact .nilSl _ | exact .ownSl _ _ _  | exact SV.le.ownEq (by first | rfl | (rw [takeS hxd, List.map_append, List.map_append]; rfl)) | exact SV.le.of_eq (by first | rfl | (rw [takeS hxd, List.map_append, List.map_append]; rfl))) (Slots.cons rfl (by first | exact .refl _ | exact .nilOwn _ _ | exact .nilSl _ | exact .ownSl _ _ _  | exact SV.le.ownEq (by first | rfl | (rw [takeS hxd, List.map_append, List.map_append]; rfl)) | exact SV.le.of_eq (by first | rfl | (rw [takeS hxd, List.map_append, List.map_append]; rfl))) (Slots.cons rfl (by first | exact .refl _ | exact .nilOwn _ _ | exact .nilSl _ | exact .ownSl _ _ _  | exact SV.le.ownEq (by first | rfl | (rw [takeS hxd, List.map_append, List.map_append]; rfl)) | exact SV.le.of_eq (by first | rfl | (rw [takeS hxd, List.map_append, List.map_append]; rfl))) (Slots.cons rfl (by first | exact .refl _ | exact .nilOwn _ _ | exact .nilSl _ | exact .ownSl _ _ _  | exact SV.le.ownEq (by first | rfl | (rw [takeS hxd, List.map_append, List.map_append]; rfl)) | exact SV.le.of_eq (by first | rfl | (rw [takeS hxd, List.map_append, List.map_append]; rfl))) (Slots.cons rfl (by first | exact .refl _ | exact .nilOwn _ _ | exact .nilSl _ | exact .ownSl _ _ _  | exact SV.le.ownEq (by first | rfl | (rw [takeS hxd, List.map_append, List.map_append]; rfl)) | exact SV.le.of_eq (by first | rfl | (rw [takeS hxd, List.map_append, List.map_append]; rfl))) (Slots.cons rfl (by first | exact .refl _ | exact .nilOwn _ _ | exact .nilSl _ | exact .ownSl _ _ _  | exact SV.le.ownEq (by first | rfl | (rw [takeS hxd, List.map_append, List.map_append]; rfl)) | exact SV.le.of_eq (by first | rfl | (rw [takeS hxd, List.map_append, List.map_append]; rfl))) Slots.nil))))))))), (by first | exact List.Sublist.refl _ | exact .cons_cons _ (.cons _ (.refl _)) | exact List.nil_sublist _ | exact .cons _ (.refl _) | exact .cons _ (.cons _ (.refl _)) | exact .cons _ (.cons _ (.cons _ (.refl _))) | exact .cons _ (.cons _ (.cons _ (.cons _ (.refl _)))) | exact .cons_cons _ (List.nil_sublist _))⟩, (by omega), ⟨n + 1, rfl, rfl, (by omega)⟩⟩
                  ·
                    have hnr : n = runF (l.drop i) := by first | exact hnr | (have h := run_at0 (hdc ▸ hxd) (hdc ▸ hn); rw [hc7] at h; have := of_decide_eq_false h.symm; rw [hdc] at hn ⊢; omega)
                    have hdb : ∀ c ∈ ((l.drop i).take n).map (·.ch), BndC c := fun c hc => by obtain ⟨x, hx, rfl⟩ := List.mem_map.1 hc; exact hb x (List.mem_of_mem_drop (List.mem_of_mem_take hx))
                    have hgl : ((l.drop i).take n).length = n := by rw [List.length_take, List.length_drop]; omega
                    have hn0 : 0 < n := by rw [hnr, hdc]; exact run_pos
                    refine awp_exit ?_
                    refine x_thenE ?_
                    refine x_thenE ?_
                    refine x_blockE ?_
                    refine x_then ?_
                    refine awp_seq ?_
                    refine awp_seq ?_
                    refine awp_region ?_
                    refine r_move rfl rfl ?_
                    refine r_move rfl rfl ?_
                    refine r_index rfl rfl rfl TF.sl28 TF.sz46 (by omega) (get_map he) rfl ?_
                    first | (refine r_fieldb rfl TF.f46_0 TF.sz30 rfl ?_) | (refine r_fieldcp rfl TF.f46_0 TF.sz30 rfl ?_)
                    refine r_load1 rfl TF.agg30 rfl ?_
                    refine r_move rfl rfl ?_
                    refine r_cmp rfl rfl rfl rfl ?_
                    refine awl_nil ?_
                    refine x_then ?_
                    refine awp_cond rfl (fun hc8 => ?_) (fun hc8 => ?_)
                    ·
                      have hgt : mo < e.moment := of_decide_eq_true hc8
                      obtain ⟨f, hf⟩ : ∃ f : Int, f = 0 := ⟨0, rfl⟩
                      have hwe : WEnd l mo now f := .inr ⟨hf, by rw [hin]; exact at_done (fun e' r' h => by rw [hdc] at h; cases h; omega)⟩
                      refine awp_exit ?_
                      refine x_thenE ?_
                      refine x_blockO rfl ?_
                      refine x_thenE ?_
                      refine x_blockE ?_
                      refine x_then ?_
                      refine ⟨⟨151, [(6, .a (files (AtF l mo).2)), (7, .a (.v (.int .i64 ((AtF l mo).1)))), (8, .a (files (now))), (9, .a (.v (.int .i64 ((f)))))], []⟩, ⟨rfl, (Slots.cons rfl (by first | exact .refl _ | exact .nilOwn _ _ | exact .nilSl _ | exact .ownSl _ _ _  | exact SV.le.ownEq (by first | rfl | rw [hf]) | exact SV.le.of_eq (by first | rfl | rw [hf])) (Slots.cons rfl (by first | exact .refl _ | exact .nilOwn _ _ | exact .nilSl _ | exact .ownSl _ _ _  | exact SV.le.ownEq (by first | rfl | rw [hf]) | exact SV.le.of_eq (by first | rfl | rw [hf])) (Slots.cons rfl (by first | exact .refl _ | exact .nilOwn _ _ | exact .nilSl _ | exact .ownSl _ _ _  | exact SV.le.ownEq (by first | rfl | rw [hf]) | exact SV.le.of_eq (by first | rfl | rw [hf])) (Slots.cons rfl (by first | exact .refl _ | exact .nilOwn _ _ | exact .nilSl _ | exact .ownSl _ _ _  | exact SV.le.ownEq (by first | rfl | rw [hf]) | exact SV.le.of_eq (by first | rfl | rw [hf])) Slots.nil)))), (by first | exact List.Sublist.refl _ | exact .cons_cons _ (.cons _ (.refl _)) | exact List.nil_sublist _ | exact .cons _ (.refl _) | exact .cons _ (.cons _ (.refl _)) | exact .cons _ (.cons _ (.cons _ (.refl _))) | exact .cons _ (.cons _ (.cons _ (.cons _ (.refl _)))) | exact .cons_cons _ (List.nil_sublist _))⟩, ⟨now, f, rfl, hwe, (by omega)⟩⟩
                    ·
                      have hle : e.moment ≤ mo := by have := of_decide_eq_false hc8; omega
                      refine awp_skip ?_
                      refine x_then ?_
                      refine awp_seq ?_
                      refine awp_region ?_
                      refine r_move rfl rfl ?_
                      refine r_move rfl rfl ?_
                      refine r_call0 hq rfl rfl (.cons (.ev rfl rfl) (.cons (.ev rfl rfl) .nil)) (apply_ok now (((l.drop i).take n).map (·.ch)) (by omega) (by rw [List.length_map]; omega) (fun f hf => (hnb f hf).1) (fun f hf => (hnb f hf).2) hdb) rfl TF.en25 rfl (fun r hr => ?_)
                      skip
                      rcases hr with ⟨m, ha, hmok, rfl⟩ | ⟨ec, m, ha, hne, rfl⟩
                      ·
                        refine r_move rfl rfl ?_
                        refine r_extract rfl rfl rfl ?_
                        refine r_extract rfl rfl rfl ?_
                        refine r_assign rfl rfl ?_
                        refine r_assign rfl rfl ?_
                        refine awl_nil ?_
                        refine x_then ?_
                        refine awp_region ?_
                        refine r_move rfl rfl ?_
                        refine r_assign rfl rfl ?_
                        refine awl_nil ?_
                        refine x_block ?_
                        refine x_then ?_
                        refine ⟨l.length - ((i + n)), ⟨151, [(0, .a (evsA l)), (1, .a (.v (.int .u64 (mo)))), (6, .a (files (AtF l mo).2)), (7, .a (.v (.int .i64 ((AtF l mo).1)))), (8, .a (files ((filesM m)))), (9, .a (.v (.int .i64 ((0))))), (11, .a (.v (.int .i64 ((((i + n)) : Int)))))], []⟩, ⟨rfl, (Slots.cons rfl (by first | exact .refl _ | exact .nilOwn _ _ | exact .nilSl _ | exact .ownSl _ _ _  | exact SV.le.of_eq (by simp)) (Slots.cons rfl (by first | exact .refl _ | exact .nilOwn _ _ | exact .nilSl _ | exact .ownSl _ _ _  | exact SV.le.of_eq (by simp)) (Slots.cons rfl (by first | exact .refl _ | exact .nilOwn _ _ | exact .nilSl _ | exact .ownSl _ _ _  | exact SV.le.of_eq (by simp)) (Slots.cons rfl (by first | exact .refl _ | exact .nilOwn _ _ | exact .nilSl _ | exact .ownSl _ _ _  | exact SV.le.of_eq (by simp)) (Slots.cons rfl (by first | exact .refl _ | exact .nilOwn _ _ | exact .nilSl _ | exact .ownSl _ _ _  | exact SV.le.of_eq (by simp)) (Slots.cons rfl (by first | exact .refl _ | exact .nilOwn _ _ | exact .nilSl _ | exact .ownSl _ _ _  | exact SV.le.of_eq (by simp)) (Slots.cons rfl (by first | exact .refl _ | exact .nilOwn _ _ | exact .nilSl _ | exact .ownSl _ _ _  | exact SV.le.of_eq (by simp)) Slots.nil))))))), (by first | exact List.Sublist.refl _ | exact .cons_cons _ (.cons _ (.refl _)) | exact List.nil_sublist _ | exact .cons _ (.refl _) | exact .cons _ (.cons _ (.refl _)) | exact .cons _ (.cons _ (.cons _ (.refl _))) | exact .cons _ (.cons _ (.cons _ (.cons _ (.refl _)))) | exact .cons_cons _ (List.nil_sublist _))⟩, (by omega), ⟨(i + n), (filesM m), 0, rfl, rfl, (by omega), (.inl ⟨rfl, by rw [hin, hdc, at_ok1 hle (by rw [← hdc, ← hnr]; exact ha), ← hdc, ← hnr, List.drop_drop], bnd_at hnb hdb ha, by have := filesM_len m; have := hmok.len; rw [List.length_map] at this; omega⟩)⟩⟩
                      ·
                        refine r_move rfl rfl ?_
                        refine r_extract rfl rfl rfl ?_
                        refine r_extract rfl rfl rfl ?_
                        refine r_assign rfl rfl ?_
                        refine r_assign rfl rfl ?_
                        refine awl_nil ?_
                        refine x_then ?_
                        refine awp_region ?_
                        refine r_move rfl rfl ?_
                        refine r_assign rfl rfl ?_
                        refine awl_nil ?_
                        refine x_block ?_
                        refine x_then ?_
                        refine ⟨l.length - ((i + n)), ⟨151, [(0, .a (evsA l)), (1, .a (.v (.int .u64 (mo)))), (6, .a (files (AtF l mo).2)), (7, .a (.v (.int .i64 ((AtF l mo).1)))), (8, .a (files ([]))), (9, .a (.v (.int .i64 ((ec))))), (11, .a (.v (.int .i64 ((((i + n)) : Int)))))], []⟩, ⟨rfl, (Slots.cons rfl (by first | exact .refl _ | exact .nilOwn _ _ | exact .nilSl _ | exact .ownSl _ _ _  | exact SV.le.of_eq (by simp)) (Slots.cons rfl (by first | exact .refl _ | exact .nilOwn _ _ | exact .nilSl _ | exact .ownSl _ _ _  | exact SV.le.of_eq (by simp)) (Slots.cons rfl (by first | exact .refl _ | exact .nilOwn _ _ | exact .nilSl _ | exact .ownSl _ _ _  | exact SV.le.of_eq (by simp)) (Slots.cons rfl (by first | exact .refl _ | exact .nilOwn _ _ | exact .nilSl _ | exact .ownSl _ _ _  | exact SV.le.of_eq (by simp)) (Slots.cons rfl (by first | exact .refl _ | exact .nilOwn _ _ | exact .nilSl _ | exact .ownSl _ _ _  | exact SV.le.of_eq (by simp)) (Slots.cons rfl (by first | exact .refl _ | exact .nilOwn _ _ | exact .nilSl _ | exact .ownSl _ _ _  | exact SV.le.of_eq (by simp)) (Slots.cons rfl (by first | exact .refl _ | exact .nilOwn _ _ | exact .nilSl _ | exact .ownSl _ _ _  | exact SV.le.of_eq (by simp)) Slots.nil))))))), (by first | exact List.Sublist.refl _ | exact .cons_cons _ (.cons _ (.refl _)) | exact List.nil_sublist _ | exact .cons _ (.refl _) | exact .cons _ (.cons _ (.refl _)) | exact .cons _ (.cons _ (.cons _ (.refl _))) | exact .cons _ (.cons _ (.cons _ (.cons _ (.refl _)))) | exact .cons_cons _ (List.nil_sublist _))⟩, (by omega), ⟨(i + n), [], ec, rfl, rfl, (by omega), (.inr ⟨hne, by rw [hin, hdc]; exact at_bad1 hle (by rw [← hdc, ← hnr]; exact ha) hne, Nat.zero_le _⟩)⟩⟩
                ·
                  have hnr : n = runF (l.drop i) := by have h1 := run_len (l.drop i); have h2 := of_decide_eq_false hg97; rw [List.length_map] at h2; rw [List.length_drop] at h1; omega
                  refine awp_drawS [93, 94, 95, 96, 97, 98, 99, 100, 101, 102, 103, 104, 105, 106, 107] [_, _, _, _, _, _, _, _, _, _, _, _, _, _, _] [] [] TF.mixed rfl rfl rfl ⟨⟨⟨⟨⟨⟨⟨⟨⟨⟨⟨⟨⟨⟨⟨trivial
                    , ⟨_, rfl, fun sl hd hr ho => by
                        refine r_move (hr 13 _ rfl rfl rfl) rfl ?_
                        exact awl_nil ⟨rfl, post_put⟩⟩⟩
                    , ⟨_, rfl, fun sl hd hr ho => by
                        refine r_move (hr 0 _ rfl rfl rfl) rfl ?_
                        exact awl_nil ⟨rfl, post_put⟩⟩⟩
                    , ⟨_, rfl, fun sl hd hr ho => by
                        first | (refine r_lenS (hd 1 _ rfl rfl rfl) rfl TF.sl28 rfl ?_) | (refine r_lenNil (hd 1 _ rfl rfl rfl) TF.sl28 rfl ?_) | (refine r_lenV (hd 1 _ rfl rfl rfl) TF.sl28 rfl ?_)
                        exact awl_nil ⟨rfl, post_put⟩⟩⟩
                    , ⟨_, rfl, fun sl hd hr ho => by
                        refine r_cmp (hd 0 _ rfl rfl rfl) (hd 2 _ rfl rfl rfl) rfl rfl ?_
                        exact awl_nil ⟨rfl, post_put⟩⟩⟩
                    , ⟨_, rfl, fun sl hd hr ho => by
                        refine r_move (hd 3 _ rfl rfl rfl) rfl ?_
                        exact awl_nil ⟨rfl, post_put⟩⟩⟩
                    , ⟨_, rfl, fun sl hd hr ho => by
                        refine g_skip rfl (hd 4 _ rfl rfl rfl) hg97 rfl ?_
                        exact awl_nil ⟨rfl, post_put⟩⟩⟩
                    , ⟨_, rfl, fun sl hd hr ho => by
                        refine g_skip rfl (hd 4 _ rfl rfl rfl) hg97 rfl ?_
                        exact awl_nil ⟨rfl, post_put⟩⟩⟩
                    , ⟨_, rfl, fun sl hd hr ho => by
                        refine g_skip rfl (hd 4 _ rfl rfl rfl) hg97 rfl ?_
                        exact awl_nil ⟨rfl, post_put⟩⟩⟩
                    , ⟨_, rfl, fun sl hd hr ho => by
                        refine g_skip rfl (hd 4 _ rfl rfl rfl) hg97 rfl ?_
                        exact awl_nil ⟨rfl, post_put⟩⟩⟩
                    , ⟨_, rfl, fun sl hd hr ho => by
                        refine g_skip rfl (hd 4 _ rfl rfl rfl) hg97 rfl ?_
                        exact awl_nil ⟨rfl, post_put⟩⟩⟩
                    , ⟨_, rfl, fun sl hd hr ho => by
                        refine g_skip rfl (hd 4 _ rfl rfl rfl) hg97 rfl ?_
                        exact awl_nil ⟨rfl, post_put⟩⟩⟩
                    , ⟨_, rfl, fun sl hd hr ho => by
                        refine g_skip rfl (hd 4 _ rfl rfl rfl) hg97 rfl ?_
                        exact awl_nil ⟨rfl, post_put⟩⟩⟩
                    , ⟨_, rfl, fun sl hd hr ho => by
                        refine g_skip rfl (hd 4 _ rfl rfl rfl) hg97 rfl ?_
                        exact awl_nil ⟨rfl, post_put⟩⟩⟩
                    , ⟨_, rfl, fun sl hd hr ho => by
                        refine g_skip rfl (hd 4 _ rfl rfl rfl) hg97 rfl ?_
                        exact awl_nil ⟨rfl, post_put⟩⟩⟩
                    , ⟨_, rfl, fun sl hd hr ho => by
                        refine g_skip rfl (hd 4 _ rfl rfl rfl) hg97 rfl ?_
                        exact awl_nil ⟨rfl, post_put⟩⟩⟩
                    (by rfl) ?_
                  refine g_skip rfl rfl hg97 rfl ?_
                  refine r_pickF rfl hg97 rfl rfl ?_
                  refine awl_nil ?_
                  refine x_then ?_
                  refine awp_condF rfl ?_
                  have hnr : n = runF (l.drop i) := by first | exact hnr | (have h := run_at0 (hdc ▸ hxd) (hdc ▸ hn); rw [hc7] at h; have := of_decide_eq_false h.symm; rw [hdc] at hn ⊢; omega)
                  have hdb : ∀ c ∈ ((l.drop i).take n).map (·.ch), BndC c := fun c hc => by obtain ⟨x, hx, rfl⟩ := List.mem_map.1 hc; exact hb x (List.mem_of_mem_drop (List.mem_of_mem_take hx))
                  have hgl : ((l.drop i).take n).length = n := by rw [List.length_take, List.length_drop]; omega
                  have hn0 : 0 < n := by rw [hnr, hdc]; exact run_pos
                  refine awp_exit ?_
                  refine x_thenE ?_
                  refine x_thenE ?_
                  refine x_blockE ?_
                  refine x_then ?_
                  refine awp_seq ?_
                  refine awp_seq ?_
                  refine awp_region ?_
                  refine r_move rfl rfl ?_
                  refine r_move rfl rfl ?_
                  refine r_index rfl rfl rfl TF.sl28 TF.sz46 (by omega) (get_map he) rfl ?_
                  first | (refine r_fieldb rfl TF.f46_0 TF.sz30 rfl ?_) | (refine r_fieldcp rfl TF.f46_0 TF.sz30 rfl ?_)
                  refine r_load1 rfl TF.agg30 rfl ?_
                  refine r_move rfl rfl ?_
                  refine r_cmp rfl rfl rfl rfl ?_
                  refine awl_nil ?_
                  refine x_then ?_
                  refine awp_cond rfl (fun hc8 => ?_) (fun hc8 => ?_)
                  ·
                    have hgt : mo < e.moment := of_decide_eq_true hc8
                    obtain ⟨f, hf⟩ : ∃ f : Int, f = 0 := ⟨0, rfl⟩
                    have hwe : WEnd l mo now f := .inr ⟨hf, by rw [hin]; exact at_done (fun e' r' h => by rw [hdc] at h; cases h; omega)⟩
                    refine awp_exit ?_
                    refine x_thenE ?_
                    refine x_blockO rfl ?_
                    refine x_thenE ?_
                    refine x_blockE ?_
                    refine x_then ?_
                    refine ⟨⟨151, [(6, .a (files (AtF l mo).2)), (7, .a (.v (.int .i64 ((AtF l mo).1)))), (8, .a (files (now))), (9, .a (.v (.int .i64 ((f)))))], []⟩, ⟨rfl, (Slots.cons rfl (by first | exact .refl _ | exact .nilOwn _ _ | exact .nilSl _ | exact .ownSl _ _ _  | exact SV.le.ownEq (by first | rfl | rw [hf]) | exact SV.le.of_eq (by first | rfl | rw [hf])) (Slots.cons rfl (by first | exact .refl _ | exact .nilOwn _ _ | exact .nilSl _ | exact .ownSl _ _ _  | exact SV.le.ownEq (by first | rfl | rw [hf]) | exact SV.le.of_eq (by first | rfl | rw [hf])) (Slots.cons rfl (by first | exact .refl _ | exact .nilOwn _ _ | exact .nilSl _ | exact .ownSl _ _ _  | exact SV.le.ownEq (by first | rfl | rw [hf]) | exact SV.le.of_eq (by first | rfl | rw [hf])) (Slots.cons rfl (by first | exact .refl _ | exact .nilOwn _ _ | exact .nilSl _ | exact .ownSl _ _ _  | exact SV.le.ownEq (by first | rfl | rw [hf]) | exact SV.le.of_eq (by first | rfl | rw [hf])) Slots.nil)))), (by first | exact List.Sublist.refl _ | exact .cons_cons _ (.cons _ (.refl _)) | exact List.nil_sublist _ | exact .cons _ (.refl _) | exact .cons _ (.cons _ (.refl _)) | exact .cons _ (.cons _ (.cons _ (.refl _))) | exact .cons _ (.cons _ (.cons _ (.cons _ (.refl _)))) | exact .cons_cons _ (List.nil_sublist _))⟩, ⟨now, f, rfl, hwe, (by omega)⟩⟩
                  ·
                    have hle : e.moment ≤ mo := by have := of_decide_eq_false hc8; omega
                    refine awp_skip ?_
                    refine x_then ?_
                    refine awp_seq ?_
                    refine awp_region ?_
                    refine r_move rfl rfl ?_
                    refine r_move rfl rfl ?_
                    refine r_call0 hq rfl rfl (.cons (.ev rfl rfl) (.cons (.ev rfl rfl) .nil)) (apply_ok now (((l.drop i).take n).map (·.ch)) (by omega) (by rw [List.length_map]; omega) (fun f hf => (hnb f hf).1) (fun f hf => (hnb f hf).2) hdb) rfl TF.en25 rfl (fun r hr => ?_)
                    skip
                    rcases hr with ⟨m, ha, hmok, rfl⟩ | ⟨ec, m, ha, hne, rfl⟩
                    ·
                      refine r_move rfl rfl ?_
                      refine r_extract rfl rfl rfl ?_
                      refine r_extract rfl rfl rfl ?_
                      refine r_assign rfl rfl ?_
                      refine r_assign rfl rfl ?_
                      refine awl_nil ?_
                      refine x_then ?_
                      refine awp_region ?_
                      refine r_move rfl rfl ?_
                      refine r_assign rfl rfl ?_
                      refine awl_nil ?_
                      refine x_block ?_
                      refine x_then ?_
                      refine ⟨l.length - ((i + n)), ⟨151, [(0, .a (evsA l)), (1, .a (.v (.int .u64 (mo)))), (6, .a (files (AtF l mo).2)), (7, .a (.v (.int .i64 ((AtF l mo).1)))), (8, .a (files ((filesM m)))), (9, .a (.v (.int .i64 ((0))))), (11, .a (.v (.int .i64 ((((i + n)) : Int)))))], []⟩, ⟨rfl, (Slots.cons rfl (by first | exact .refl _ | exact .nilOwn _ _ | exact .nilSl _ | exact .ownSl _ _ _  | exact SV.le.of_eq (by simp)) (Slots.cons rfl (by first | exact .refl _ | exact .nilOwn _ _ | exact .nilSl _ | exact .ownSl _ _ _  | exact SV.le.of_eq (by simp)) (Slots.cons rfl (by first | exact .refl _ | exact .nilOwn _ _ | exact .nilSl _ | exact .ownSl _ _ _  | exact SV.le.of_eq (by simp)) (Slots.cons rfl (by first | exact .refl _ | exact .nilOwn _ _ | exact .nilSl _ | exact .ownSl _ _ _  | exact SV.le.of_eq (by simp)) (Slots.cons rfl (by first | exact .refl _ | exact .nilOwn _ _ | exact .nilSl _ | exact .ownSl _ _ _  | exact SV.le.of_eq (by simp)) (Slots.cons rfl (by first | exact .refl _ | exact .nilOwn _ _ | exact .nilSl _ | exact .ownSl _ _ _  | exact SV.le.of_eq (by simp)) (Slots.cons rfl (by first | exact .refl _ | exact .nilOwn _ _ | exact .nilSl _ | exact .ownSl _ _ _  | exact SV.le.of_eq (by simp)) Slots.nil))))))), (by first | exact List.Sublist.refl _ | exact .cons_cons _ (.cons _ (.refl _)) | exact List.nil_sublist _ | exact .cons _ (.refl _) | exact .cons _ (.cons _ (.refl _)) | exact .cons _ (.cons _ (.cons _ (.refl _))) | exact .cons _ (.cons _ (.cons _ (.cons _ (.refl _)))) | exact .cons_cons _ (List.nil_sublist _))⟩, (by omega), ⟨(i + n), (filesM m), 0, rfl, rfl, (by omega), (.inl ⟨rfl, by rw [hin, hdc, at_ok1 hle (by rw [← hdc, ← hnr]; exact ha), ← hdc, ← hnr, List.drop_drop], bnd_at hnb hdb ha, by have := filesM_len m; have := hmok.len; rw [List.length_map] at this; omega⟩)⟩⟩
                    ·
                      refine r_move rfl rfl ?_
                      refine r_extract rfl rfl rfl ?_
                      refine r_extract rfl rfl rfl ?_
                      refine r_assign rfl rfl ?_
                      refine r_assign rfl rfl ?_
                      refine awl_nil ?_
                      refine x_then ?_
                      refine awp_region ?_
                      refine r_move rfl rfl ?_
                      refine r_assign rfl rfl ?_
                      refine awl_nil ?_
                      refine x_block ?_
                      refine x_then ?_
                      refine ⟨l.length - ((i + n)), ⟨151, [(0, .a (evsA l)), (1, .a (.v (.int .u64 (mo)))), (6, .a (files (AtF l mo).2)), (7, .a (.v (.int .i64 ((AtF l mo).1)))), (8, .a (files ([]))), (9, .a (.v (.int .i64 ((ec))))), (11, .a (.v (.int .i64 ((((i + n)) : Int)))))], []⟩, ⟨rfl, (Slots.cons rfl (by first | exact .refl _ | exact .nilOwn _ _ | exact .nilSl _ | exact .ownSl _ _ _  | exact SV.le.of_eq (by simp)) (Slots.cons rfl (by first | exact .refl _ | exact .nilOwn _ _ | exact .nilSl _ | exact .ownSl _ _ _  | exact SV.le.of_eq (by simp)) (Slots.cons rfl (by first | exact .refl _ | exact .nilOwn _ _ | exact .nilSl _ | exact .ownSl _ _ _  | exact SV.le.of_eq (by simp)) (Slots.cons rfl (by first | exact .refl _ | exact .nilOwn _ _ | exact .nilSl _ | exact .ownSl _ _ _  | exact SV.le.of_eq (by simp)) (Slots.cons rfl (by first | exact .refl _ | exact .nilOwn _ _ | exact .nilSl _ | exact .ownSl _ _ _  | exact SV.le.of_eq (by simp)) (Slots.cons rfl (by first | exact .refl _ | exact .nilOwn _ _ | exact .nilSl _ | exact .ownSl _ _ _  | exact SV.le.of_eq (by simp)) (Slots.cons rfl (by first | exact .refl _ | exact .nilOwn _ _ | exact .nilSl _ | exact .ownSl _ _ _  | exact SV.le.of_eq (by simp)) Slots.nil))))))), (by first | exact List.Sublist.refl _ | exact .cons_cons _ (.cons _ (.refl _)) | exact List.nil_sublist _ | exact .cons _ (.refl _) | exact .cons _ (.cons _ (.refl _)) | exact .cons _ (.cons _ (.cons _ (.refl _))) | exact .cons _ (.cons _ (.cons _ (.cons _ (.refl _)))) | exact .cons_cons _ (List.nil_sublist _))⟩, (by omega), ⟨(i + n), [], ec, rfl, rfl, (by omega), (.inr ⟨hne, by rw [hin, hdc]; exact at_bad1 hle (by rw [← hdc, ← hnr]; exact ha) hne, Nat.zero_le _⟩)⟩⟩
              ·
                have hnl : now.length ≤ l.length := by rcases hinv with ⟨_, _, _, h⟩ | ⟨_, _, h⟩ <;> omega
                have hwe : WEnd l mo now f := by
                  rcases hinv with ⟨h0, h1, _, _⟩ | ⟨h0, h1, _⟩
                  · first | (rw [List.drop_length] at h1; exact .inr ⟨h0, h1⟩) | (subst h0; simp at hc6)
                  · exact .inl ⟨h0, h1⟩
                refine awp_exit ?_
                refine x_thenE ?_
                refine x_thenE ?_
                refine x_blockE ?_
                refine x_then ?_
                refine ⟨⟨151, [(6, .a (files (AtF l mo).2)), (7, .a (.v (.int .i64 ((AtF l mo).1)))), (8, .a (files (now))), (9, .a (.v (.int .i64 ((f)))))], []⟩, ⟨rfl, (Slots.cons rfl (by first | exact .refl _ | exact .nilOwn _ _ | exact .nilSl _ | exact .ownSl _ _ _  | exact SV.le.ownEq (by first | rfl | rw [hf]) | exact SV.le.of_eq (by first | rfl | rw [hf])) (Slots.cons rfl (by first | exact .refl _ | exact .nilOwn _ _ | exact .nilSl _ | exact .ownSl _ _ _  | exact SV.le.ownEq (by first | rfl | rw [hf]) | exact SV.le.of_eq (by first | rfl | rw [hf])) (Slots.cons rfl (by first | exact .refl _ | exact .nilOwn _ _ | exact .nilSl _ | exact .ownSl _ _ _  | exact SV.le.ownEq (by first | rfl | rw [hf]) | exact SV.le.of_eq (by first | rfl | rw [hf])) (Slots.cons rfl (by first | exact .refl _ | exact .nilOwn _ _ | exact .nilSl _ | exact .ownSl _ _ _  | exact SV.le.ownEq (by first | rfl | rw [hf]) | exact SV.le.of_eq (by first | rfl | rw [hf])) Slots.nil)))), (by first | exact List.Sublist.refl _ | exact .cons_cons _ (.cons _ (.refl _)) | exact List.nil_sublist _ | exact .cons _ (.refl _) | exact .cons _ (.cons _ (.refl _)) | exact .cons _ (.cons _ (.cons _ (.refl _))) | exact .cons _ (.cons _ (.cons _ (.cons _ (.refl _)))) | exact .cons_cons _ (List.nil_sublist _))⟩, ⟨now, f, rfl, hwe, (by omega)⟩⟩
            ·
              have hgei : l.length ≤ i := by have := of_decide_eq_false hg88; simp at this; omega
              obtain rfl : i = l.length := by omega
              refine g_skip rfl rfl hg88 rfl ?_
              refine g_skip rfl rfl hg88 rfl ?_
              refine r_pickF rfl hg88 rfl rfl ?_
              refine awl_nil ?_
              refine x_then ?_
              refine awp_condF rfl ?_
              have hnl : now.length ≤ l.length := by rcases hinv with ⟨_, _, _, h⟩ | ⟨_, _, h⟩ <;> omega
              have hwe : WEnd l mo now f := by
                rcases hinv with ⟨h0, h1, _, _⟩ | ⟨h0, h1, _⟩
                · first | (rw [List.drop_length] at h1; exact .inr ⟨h0, h1⟩) | (subst h0; simp at hc6)
                · exact .inl ⟨h0, h1⟩
              refine awp_exit ?_
              refine x_thenE ?_
              refine x_thenE ?_
              refine x_blockE ?_
              refine x_then ?_
              refine ⟨⟨151, [(6, .a (files (AtF l mo).2)), (7, .a (.v (.int .i64 ((AtF l mo).1)))), (8, .a (files (now))), (9, .a (.v (.int .i64 ((f)))))], []⟩, ⟨rfl, (Slots.cons rfl (by first | exact .refl _ | exact .nilOwn _ _ | exact .nilSl _ | exact .ownSl _ _ _  | exact SV.le.ownEq (by first | rfl | rw [hf]) | exact SV.le.of_eq (by first | rfl | rw [hf])) (Slots.cons rfl (by first | exact .refl _ | exact .nilOwn _ _ | exact .nilSl _ | exact .ownSl _ _ _  | exact SV.le.ownEq (by first | rfl | rw [hf]) | exact SV.le.of_eq (by first | rfl | rw [hf])) (Slots.cons rfl (by first | exact .refl _ | exact .nilOwn _ _ | exact .nilSl _ | exact .ownSl _ _ _  | exact SV.le.ownEq (by first | rfl | rw [hf]) | exact SV.le.of_eq (by first | rfl | rw [hf])) (Slots.cons rfl (by first | exact .refl _ | exact .nilOwn _ _ | exact .nilSl _ | exact .ownSl _ _ _  | exact SV.le.ownEq (by first | rfl | rw [hf]) | exact SV.le.of_eq (by first | rfl | rw [hf])) Slots.nil)))), (by first | exact List.Sublist.refl _ | exact .cons_cons _ (.cons _ (.refl _)) | exact List.nil_sublist _ | exact .cons _ (.refl _) | exact .cons _ (.cons _ (.refl _)) | exact .cons _ (.cons _ (.cons _ (.refl _))) | exact .cons _ (.cons _ (.cons _ (.cons _ (.refl _)))) | exact .cons_cons _ (List.nil_sublist _))⟩, ⟨now, f, rfl, hwe, (by omega)⟩⟩
          ·
            rintro _ ⟨now, f, rfl, hend, hnl⟩
            refine awp_seq ?_
            refine awp_seq ?_
            refine awp_region ?_
            refine r_move rfl rfl ?_
            refine r_cmp rfl rfl rfl rfl ?_
            refine awl_nil ?_
            refine x_then ?_
            refine awp_cond rfl (fun hc9 => ?_) (fun hc9 => ?_)
            ·
              have hf0 : ¬ f = 0 := by simpa using hc9
              have hat : AtF l mo = (f, []) := by rcases hend with ⟨_, h⟩ | ⟨h, _⟩; exact h; exact absurd h hf0
              rw [hat]
              refine awp_seq ?_
              refine awp_region ?_
              refine r_move rfl rfl ?_
              refine r_move rfl rfl ?_
              refine r_cmp rfl rfl rfl rfl ?_
              refine r_move rfl rfl ?_
              refine g_run rfl rfl (by simp) ?_
              refine r_move rfl rfl ?_
              refine g_run rfl rfl (by simp) ?_
              first | (refine r_lenS rfl rfl TF.sl31 rfl ?_) | (refine r_lenNil rfl TF.sl31 rfl ?_) | (refine r_lenV rfl TF.sl31 rfl ?_)
              refine g_run rfl rfl (by simp) ?_
              refine r_cmp rfl rfl rfl rfl ?_
              refine r_pickT rfl (by simp) rfl rfl ?_
              refine r_assign rfl rfl ?_
              refine awl_nil ?_
              refine x_then ?_
              refine awp_ret ?_
              refine x_thenR ?_
              exact ⟨(.inl rfl), _, [], (.one (by first | exact .mk rfl rfl | exact .nil rfl)), ⟨rfl, rfl⟩, (List.nil_sublist _), (by simp)⟩
            ·
              have hf0 : f = 0 := by simpa using hc9
              have hat : AtF l mo = (0, now) := by rcases hend with ⟨h, _⟩ | ⟨_, h⟩; exact absurd hf0 h; exact h
              rw [hat]
              refine awp_skip ?_
              refine x_then ?_
              refine awp_seq ?_
              refine awp_region ?_
              refine r_move rfl rfl ?_
              refine r_cmp rfl rfl rfl rfl ?_
              refine r_move rfl rfl ?_
              refine g_run rfl rfl rfl ?_
              refine r_move rfl rfl ?_
              refine g_run rfl rfl rfl ?_
              refine r_move rfl rfl ?_
              refine g_run rfl rfl rfl ?_
              refine r_call0 hq rfl rfl (.cons (.ev rfl rfl) (.cons (.ev rfl rfl) .nil)) (fsame_ok now (by omega)) rfl TF.en24 rfl (fun r hr => ?_)
              obtain rfl := hr
              refine r_pickT rfl rfl rfl rfl ?_
              refine r_assign rfl rfl ?_
              refine awl_nil ?_
              refine x_then ?_
              refine awp_ret ?_
              exact ⟨(.inl rfl), _, [], (.one (by first | exact .mk rfl rfl | exact .nil rfl)), ⟨rfl, rfl⟩, (List.nil_sublist _), (by simp)⟩

end Go.Proofs.Ytmbfmnhcahhciaa.A

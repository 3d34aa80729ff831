/- Layer 62: walks of Right. -/
import Derived.Test.YtnbnegkdbjdekaaProg
import Derived.KernelRfl
import Derived.Test.YtnbnegkdbjdekaaX62D
import Derived.Test.YtnbnegkdbjdekaaX62R
namespace Go.Proofs.Ytnbnegkdbjdekaa.A
open Go Go.RowKit
set_option linter.unusedVariables false
set_option linter.unusedSimpArgs false
set_option maxRecDepth 100000

theorem TF.sl82 : sliceT Try.prog 82 = some 3 := by kernel_rfl
theorem TF.zraw3 : zeroT Try.prog 3 = some [(.int .i64 0)] := by kernel_rfl
theorem TF.en46 : entersT Try.prog 46 := enters_of Try.func46 (by kernel_rfl) (by kernel_rfl)
theorem TF.en35 : entersT Try.prog 35 := enters_of Try.func35 (by kernel_rfl) (by kernel_rfl)
theorem TF.en36 : entersT Try.prog 36 := enters_of Try.func36 (by kernel_rfl) (by kernel_rfl)
theorem TF.by9 : bytesT Try.prog 9 = some 16 := by kernel_rfl
theorem TF.zlen9 : (zeroT Try.prog 9).map (·.length) = some 1 := by kernel_rfl
theorem TF.map70 : mapT Try.prog 70 = some (9, 4) := by kernel_rfl
theorem TF.zav4 : ZeroAV Try.prog 4 (.v (.bool false)) := ⟨.v (.bool false), by kernel_rfl, .one (.refl _)⟩

theorem indexI_ok (l : List Int) (v : Int) (hl : l.length ≤ 1000000) : AC Try.prog 46 [.sl 1 (l.map fun x => [AV.v (.int .i64 x)]), .v (.int .i64 v)] [] (fun r n => n = [] ∧ r = .v (.int .i64 (optI (l.findIdx? (fun x => v == x))))) := by
  refine ac_of_awp (rs := [4]) (nt := 19) Try.func46 rfl rfl rfl rfl (fun w0 C0 hq => ?_)
  refine awp_seq ?_
  refine awp_region ?_
  refine r_assign rfl rfl ?_
  refine awl_nil ?_
  refine x_then ?_
  refine awp_seq ?_
  refine awp_seq ?_
  refine awp_region ?_
  refine r_move rfl rfl ?_
  first | (refine r_lenS rfl rfl TF.sl82 rfl ?_) | (refine r_lenNil rfl TF.sl82 rfl ?_) | (refine r_lenV rfl TF.sl82 rfl ?_)
  refine r_move rfl rfl ?_
  refine awl_nil ?_
  refine x_then ?_
  refine awp_block ?_
  refine awp_loop (fun nn0 S => ∃ k : Nat, S = ⟨19, [(0, .a (.sl 1 (l.map fun x => [AV.v (.int .i64 x)]))), (1, .a (.v (.int .i64 v))), (7, .a (.v (.int .i64 ((l.map fun x => [AV.v (.int .i64 x)]).length)))), (8, .a (.v (.int .i64 ((k : Int)))))], []⟩ ∧ nn0 = l.length - k ∧ (k ≤ l.length) ∧ ((l.take k).findIdx? (fun x => v == x) = none)) (l.length - (0)) ⟨19, [(0, .a (.sl 1 (l.map fun x => [AV.v (.int .i64 x)]))), (1, .a (.v (.int .i64 v))), (7, .a (.v (.int .i64 ((l.map fun x => [AV.v (.int .i64 x)]).length)))), (8, .a (.v (.int .i64 (((0) : Int)))))], []⟩ ⟨rfl, (Slots.cons rfl (by first | exact .refl _ | exact .nilOwn _ _ | exact .nilSl _ | exact .ownSl _ _ _  | exact SV.le.of_eq (by simp)) (Slots.cons rfl (by first | exact .refl _ | exact .nilOwn _ _ | exact .nilSl _ | exact .ownSl _ _ _  | exact SV.le.of_eq (by simp)) (Slots.cons rfl (by first | exact .refl _ | exact .nilOwn _ _ | exact .nilSl _ | exact .ownSl _ _ _  | exact SV.le.of_eq (by simp)) (Slots.cons rfl (by first | exact .refl _ | exact .nilOwn _ _ | exact .nilSl _ | exact .ownSl _ _ _  | exact SV.le.of_eq (by simp)) Slots.nil)))), (by first | exact List.Sublist.refl _ | exact .cons_cons _ (.cons _ (.refl _)) | exact List.nil_sublist _ | exact .cons _ (.refl _) | exact .cons _ (.cons _ (.refl _)) | exact .cons _ (.cons _ (.cons _ (.refl _))) | exact .cons _ (.cons _ (.cons _ (.cons _ (.refl _)))) | exact .cons_cons _ (List.nil_sublist _))⟩ ⟨0, rfl, rfl, Nat.zero_le _, rfl⟩ ?_
  rintro nn0 _ ⟨k, rfl, rfl, hk, hno⟩
  refine awp_seq ?_
  refine awp_region ?_
  refine r_cmp rfl rfl rfl rfl ?_
  refine awl_nil ?_
  refine x_then ?_
  refine awp_seq ?_
  refine awp_cond rfl (fun hc0 => ?_) (fun hc0 => ?_)
  ·
    have hltx : k < l.length := by have := of_decide_eq_true hc0; simpa using this
    obtain ⟨x, hx⟩ := get_lt hltx
    refine awp_skip ?_
    refine x_then ?_
    refine awp_seq ?_
    refine awp_block ?_
    refine awp_seq ?_
    refine awp_region ?_
    refine r_move rfl rfl ?_
    refine r_assign rfl rfl ?_
    refine awl_nil ?_
    refine x_then ?_
    refine awp_seq ?_
    refine awp_region ?_
    refine r_move rfl rfl ?_
    refine r_move rfl rfl ?_
    refine r_move rfl rfl ?_
    refine r_index rfl rfl rfl TF.sl82 TF.sz3 (by omega) (get_map hx) rfl ?_
    refine r_load1 rfl TF.agg3 rfl ?_
    refine r_cmp rfl rfl rfl rfl ?_
    refine awl_nil ?_
    refine x_then ?_
    refine awp_cond rfl (fun hc1 => ?_) (fun hc1 => ?_)
    ·
      refine awp_seq ?_
      refine awp_region ?_
      refine r_move rfl rfl ?_
      refine r_assign rfl rfl ?_
      refine awl_nil ?_
      refine x_then ?_
      refine awp_ret ?_
      refine x_blockR ?_
      refine x_thenR ?_
      refine x_thenR ?_
      refine x_blockR ?_
      refine x_thenR ?_
      exact ⟨(.inl rfl), _, [], (.one (by first | exact .mk rfl rfl | exact .nil rfl)), ⟨rfl, by rw [fidx_hit hx hc1 hno]; rfl⟩, (List.nil_sublist _), (by simp)⟩
    ·
      refine awp_skip ?_
      refine x_block ?_
      refine x_then ?_
      refine awp_region ?_
      refine r_ari _ rfl rfl rfl (wrap_id (by first | omega | (simp; omega))) rfl ?_
      refine r_move rfl rfl ?_
      refine awl_nil ?_
      refine x_then ?_
      refine ⟨l.length - (k + 1), ⟨19, [(0, .a (.sl 1 (l.map fun x => [AV.v (.int .i64 x)]))), (1, .a (.v (.int .i64 v))), (7, .a (.v (.int .i64 ((l.map fun x => [AV.v (.int .i64 x)]).length)))), (8, .a (.v (.int .i64 (((k + 1) : Int)))))], []⟩, ⟨rfl, (Slots.cons rfl (by first | exact .refl _ | exact .nilOwn _ _ | exact .nilSl _ | exact .ownSl _ _ _  | exact SV.le.of_eq (by simp)) (Slots.cons rfl (by first | exact .refl _ | exact .nilOwn _ _ | exact .nilSl _ | exact .ownSl _ _ _  | exact SV.le.of_eq (by simp)) (Slots.cons rfl (by first | exact .refl _ | exact .nilOwn _ _ | exact .nilSl _ | exact .ownSl _ _ _  | exact SV.le.of_eq (by simp)) (Slots.cons rfl (by first | exact .refl _ | exact .nilOwn _ _ | exact .nilSl _ | exact .ownSl _ _ _  | exact SV.le.of_eq (by simp)) Slots.nil)))), (by first | exact List.Sublist.refl _ | exact .cons_cons _ (.cons _ (.refl _)) | exact List.nil_sublist _ | exact .cons _ (.refl _) | exact .cons _ (.cons _ (.refl _)) | exact .cons _ (.cons _ (.cons _ (.refl _))) | exact .cons _ (.cons _ (.cons _ (.cons _ (.refl _)))) | exact .cons_cons _ (List.nil_sublist _))⟩, (by omega), ⟨k + 1, rfl, rfl, (by omega), (fidx_step hx hc1 hno)⟩⟩
  ·
    have hge : l.length ≤ k := by have := of_decide_eq_false hc0; simp at this; omega
    refine awp_exit ?_
    refine x_thenE ?_
    refine x_thenE ?_
    refine x_blockE ?_
    refine x_then ?_
    refine awp_seq ?_
    refine awp_region ?_
    refine r_assign rfl rfl ?_
    refine awl_nil ?_
    refine x_then ?_
    refine awp_ret ?_
    exact ⟨(.inl rfl), _, [], (.one (by first | exact .mk rfl rfl | exact .nil rfl)), ⟨rfl, by rw [fidx_end hge hno]; rfl⟩, (List.nil_sublist _), (by simp)⟩

theorem rank_ok (k : Int) : AC Try.prog 35 [.v (.int .i64 k)] [] (fun r n => n = [] ∧ r = .v (.int .i64 (rankF k))) := by
  refine ac_of_awp (rs := [2]) (nt := 6) Try.func35 rfl rfl rfl rfl (fun w0 C0 hq => ?_)
  refine awp_seq ?_
  refine awp_region ?_
  refine r_assign rfl rfl ?_
  refine awl_nil ?_
  refine x_then ?_
  refine awp_seq ?_
  refine awp_region ?_
  refine r_lit 3 (parts := [(0, .const ((Go.Value.int Go.IntKind.i64 4))), (1, .const ((Go.Value.int Go.IntKind.i64 2))), (2, .const ((Go.Value.int Go.IntKind.i64 3))), (3, .const ((Go.Value.int Go.IntKind.i64 1)))]) rfl TF.sl82 TF.sz3 TF.zraw3 rfl rfl rfl rfl rfl rfl rfl ?_
  refine r_move rfl rfl ?_
  refine r_call0 hq rfl rfl (.cons (.ev rfl rfl) (.cons (.ev rfl rfl) .nil)) (indexI_ok [4, 2, 3, 1] k (by simp)) rfl TF.en46 rfl (fun r hr => ?_)
  obtain rfl := hr
  refine r_assign rfl rfl ?_
  refine awl_nil ?_
  refine x_then ?_
  refine awp_ret ?_
  exact ⟨(.inl rfl), _, [], (.one (by first | exact .mk rfl rfl | exact .nil rfl)), ⟨rfl, rfl⟩, (List.nil_sublist _), (by simp)⟩

theorem bare_ok (c : FC) : AC Try.prog 36 [.agg (FC.cs c)] [] (fun r n => n = [] ∧ r = boolA (bareF c)) := by
  refine ac_of_awp (rs := [2]) (nt := 25) Try.func36 rfl rfl rfl rfl (fun w0 C0 hq => ?_)
  refine awp_seq ?_
  refine awp_region ?_
  refine r_box rfl rfl rfl (fun b1 => ?_)
  refine r_assign rfl rfl ?_
  refine awl_nil ?_
  refine x_then ?_
  refine awp_seq ?_
  refine awp_seq ?_
  refine awp_region ?_
  first | (refine r_fieldb rfl TF.f50_0 TF.sz3 rfl ?_) | (refine r_fieldcp rfl TF.f50_0 TF.sz3 rfl ?_)
  first | (refine r_load1b 0 rfl rfl rfl TF.agg3 rfl ?_) | (refine r_load1 rfl TF.agg3 rfl ?_)
  refine r_cmp rfl rfl rfl rfl ?_
  refine r_move rfl rfl ?_
  refine g_cases (t' := 6) rfl (fun hg6 => ?_) (fun hg6 => ?_)
  ·
    have h4 : (c.kind == 4) = false := by simpa using hg6
    refine g_run rfl rfl hg6 ?_
    first | (refine r_fieldb rfl TF.f50_2 TF.sz9 rfl ?_) | (refine r_fieldcp rfl TF.f50_2 TF.sz9 rfl ?_)
    refine g_run rfl rfl hg6 ?_
    first | (refine r_load1b 0 rfl rfl rfl TF.agg9 rfl ?_) | (refine r_load1 rfl TF.agg9 rfl ?_)
    refine g_run rfl rfl hg6 ?_
    refine r_str2 rfl rfl rfl rfl ?_
    refine r_pickT rfl hg6 rfl rfl ?_
    refine awl_nil ?_
    refine x_then ?_
    refine awp_cond rfl (fun hc0 => ?_) (fun hc0 => ?_)
    ·
      have ht : decide (c.to = E0) = false := by rw [E0]; simpa using hc0
      refine awp_seq ?_
      refine awp_region ?_
      refine r_assign rfl rfl ?_
      refine awl_nil ?_
      refine x_then ?_
      refine awp_ret ?_
      refine x_thenR ?_
      exact ⟨(.inl rfl), _, [], (.one (by first | exact .mk rfl rfl | exact .nil rfl)), ⟨rfl, by first | (simp only [bareF, h4, ht, Bool.not_true, Bool.not_false, Bool.true_and, Bool.and_true, Bool.false_and, Bool.and_false]; rfl) | (simp only [bareF, h4, hl, Bool.not_true, Bool.not_false, Bool.true_and, Bool.and_true, Bool.false_and, Bool.true_or]; rfl) | (simp only [bareF, h4, ht, hl, Bool.not_true, Bool.not_false, Bool.true_and, Bool.and_true, Bool.false_and, Bool.true_or]; rfl) | (simp only [bareF, h4, hl, h1, Bool.not_true, Bool.not_false, Bool.true_and, Bool.and_true, Bool.false_and, Bool.true_or, Bool.false_or]; rfl) | (simp only [bareF, h4, ht, hl, h1, Bool.not_true, Bool.not_false, Bool.true_and, Bool.and_true, Bool.false_and, Bool.true_or, Bool.false_or]; rfl)⟩, (List.nil_sublist _), (by simp)⟩
    ·
      have ht : decide (c.to = E0) = true := by rw [E0]; simpa using hc0
      refine awp_skip ?_
      refine x_then ?_
      refine awp_seq ?_
      refine awp_region ?_
      first | (refine r_fieldb rfl TF.f50_3 TF.sz34 rfl ?_) | (refine r_fieldcp rfl TF.f50_3 TF.sz34 rfl ?_)
      first | (refine r_load1b 0 rfl rfl rfl TF.agg34 rfl ?_) | (refine r_load1 rfl TF.agg34 rfl ?_)
      first | (refine r_lenS rfl rfl TF.sl34 rfl ?_) | (refine r_lenNil rfl TF.sl34 rfl ?_) | (refine r_lenV rfl TF.sl34 rfl ?_)
      refine r_cmp rfl rfl rfl rfl ?_
      refine r_move rfl rfl ?_
      refine g_cases (t' := 15) rfl (fun hg15 => ?_) (fun hg15 => ?_)
      ·
        have hl : decide (c.data.length = 0) = true := by have := eq_of_beq hg15; rw [u8s_len] at this; simpa using this
        refine g_skip rfl rfl hg15 rfl ?_
        refine g_skip rfl rfl hg15 rfl ?_
        refine g_skip rfl rfl hg15 rfl ?_
        refine r_pickT rfl hg15 rfl rfl ?_
        refine r_move rfl rfl ?_
        refine g_skip rfl rfl rfl rfl ?_
        refine g_skip rfl rfl rfl rfl ?_
        refine g_skip rfl rfl rfl rfl ?_
        refine r_pickT rfl rfl rfl rfl ?_
        refine r_assign rfl rfl ?_
        refine awl_nil ?_
        refine x_then ?_
        refine awp_ret ?_
        exact ⟨(.inl rfl), _, [], (.one (by first | exact .mk rfl rfl | exact .nil rfl)), ⟨rfl, by first | (simp only [bareF, h4, ht, Bool.not_true, Bool.not_false, Bool.true_and, Bool.and_true, Bool.false_and, Bool.and_false]; rfl) | (simp only [bareF, h4, hl, Bool.not_true, Bool.not_false, Bool.true_and, Bool.and_true, Bool.false_and, Bool.true_or]; rfl) | (simp only [bareF, h4, ht, hl, Bool.not_true, Bool.not_false, Bool.true_and, Bool.and_true, Bool.false_and, Bool.true_or]; rfl) | (simp only [bareF, h4, hl, h1, Bool.not_true, Bool.not_false, Bool.true_and, Bool.and_true, Bool.false_and, Bool.true_or, Bool.false_or]; rfl) | (simp only [bareF, h4, ht, hl, h1, Bool.not_true, Bool.not_false, Bool.true_and, Bool.and_true, Bool.false_and, Bool.true_or, Bool.false_or]; rfl)⟩, (List.nil_sublist _), (by simp)⟩
      ·
        have hl : decide (c.data.length = 0) = false := by simp [u8s_len] at hg15; simpa using hg15
        refine g_run rfl rfl hg15 ?_
        first | (refine r_fieldb rfl TF.f50_0 TF.sz3 rfl ?_) | (refine r_fieldcp rfl TF.f50_0 TF.sz3 rfl ?_)
        refine g_run rfl rfl hg15 ?_
        first | (refine r_load1b 0 rfl rfl rfl TF.agg3 rfl ?_) | (refine r_load1 rfl TF.agg3 rfl ?_)
        refine g_run rfl rfl hg15 ?_
        refine r_cmp rfl rfl rfl rfl ?_
        refine r_pickF rfl hg15 rfl rfl ?_
        refine r_move rfl rfl ?_
        refine g_cases (t' := 20) rfl (fun hg20 => ?_) (fun hg20 => ?_)
        ·
          have h1 : (c.kind == 1) = true := hg20
          refine g_skip rfl rfl hg20 rfl ?_
          refine g_skip rfl rfl hg20 rfl ?_
          refine g_skip rfl rfl hg20 rfl ?_
          refine r_pickT rfl hg20 rfl rfl ?_
          refine r_assign rfl rfl ?_
          refine awl_nil ?_
          refine x_then ?_
          refine awp_ret ?_
          exact ⟨(.inl rfl), _, [], (.one (by first | exact .mk rfl rfl | exact .nil rfl)), ⟨rfl, by first | (simp only [bareF, h4, ht, Bool.not_true, Bool.not_false, Bool.true_and, Bool.and_true, Bool.false_and, Bool.and_false]; rfl) | (simp only [bareF, h4, hl, Bool.not_true, Bool.not_false, Bool.true_and, Bool.and_true, Bool.false_and, Bool.true_or]; rfl) | (simp only [bareF, h4, ht, hl, Bool.not_true, Bool.not_false, Bool.true_and, Bool.and_true, Bool.false_and, Bool.true_or]; rfl) | (simp only [bareF, h4, hl, h1, Bool.not_true, Bool.not_false, Bool.true_and, Bool.and_true, Bool.false_and, Bool.true_or, Bool.false_or]; rfl) | (simp only [bareF, h4, ht, hl, h1, Bool.not_true, Bool.not_false, Bool.true_and, Bool.and_true, Bool.false_and, Bool.true_or, Bool.false_or]; rfl)⟩, (List.nil_sublist _), (by simp)⟩
        ·
          have h1 : (c.kind == 1) = false := hg20
          refine g_run rfl rfl hg20 ?_
          first | (refine r_fieldb rfl TF.f50_0 TF.sz3 rfl ?_) | (refine r_fieldcp rfl TF.f50_0 TF.sz3 rfl ?_)
          refine g_run rfl rfl hg20 ?_
          first | (refine r_load1b 0 rfl rfl rfl TF.agg3 rfl ?_) | (refine r_load1 rfl TF.agg3 rfl ?_)
          refine g_run rfl rfl hg20 ?_
          refine r_cmp rfl rfl rfl rfl ?_
          refine r_pickF rfl hg20 rfl rfl ?_
          refine r_assign rfl rfl ?_
          refine awl_nil ?_
          refine x_then ?_
          refine awp_ret ?_
          exact ⟨(.inl rfl), _, [], (.one (by first | exact .mk rfl rfl | exact .nil rfl)), ⟨rfl, by first | (simp only [bareF, h4, ht, Bool.not_true, Bool.not_false, Bool.true_and, Bool.and_true, Bool.false_and, Bool.and_false]; rfl) | (simp only [bareF, h4, hl, Bool.not_true, Bool.not_false, Bool.true_and, Bool.and_true, Bool.false_and, Bool.true_or]; rfl) | (simp only [bareF, h4, ht, hl, Bool.not_true, Bool.not_false, Bool.true_and, Bool.and_true, Bool.false_and, Bool.true_or]; rfl) | (simp only [bareF, h4, hl, h1, Bool.not_true, Bool.not_false, Bool.true_and, Bool.and_true, Bool.false_and, Bool.true_or, Bool.false_or]; rfl) | (simp only [bareF, h4, ht, hl, h1, Bool.not_true, Bool.not_false, Bool.true_and, Bool.and_true, Bool.false_and, Bool.true_or, Bool.false_or]; rfl)⟩, (List.nil_sublist _), (by simp)⟩
  ·
    have h4 : (c.kind == 4) = true := by simpa using hg6
    refine g_skip rfl rfl hg6 rfl ?_
    refine g_skip rfl rfl hg6 rfl ?_
    refine g_skip rfl rfl hg6 rfl ?_
    refine r_pickF rfl hg6 rfl rfl ?_
    refine awl_nil ?_
    refine x_then ?_
    refine awp_condF rfl ?_
    refine awp_skip ?_
    refine x_then ?_
    refine awp_seq ?_
    refine awp_region ?_
    first | (refine r_fieldb rfl TF.f50_3 TF.sz34 rfl ?_) | (refine r_fieldcp rfl TF.f50_3 TF.sz34 rfl ?_)
    first | (refine r_load1b 0 rfl rfl rfl TF.agg34 rfl ?_) | (refine r_load1 rfl TF.agg34 rfl ?_)
    first | (refine r_lenS rfl rfl TF.sl34 rfl ?_) | (refine r_lenNil rfl TF.sl34 rfl ?_) | (refine r_lenV rfl TF.sl34 rfl ?_)
    refine r_cmp rfl rfl rfl rfl ?_
    refine r_move rfl rfl ?_
    refine g_cases (t' := 15) rfl (fun hg15 => ?_) (fun hg15 => ?_)
    ·
      have hl : decide (c.data.length = 0) = true := by have := eq_of_beq hg15; rw [u8s_len] at this; simpa using this
      refine g_skip rfl rfl hg15 rfl ?_
      refine g_skip rfl rfl hg15 rfl ?_
      refine g_skip rfl rfl hg15 rfl ?_
      refine r_pickT rfl hg15 rfl rfl ?_
      refine r_move rfl rfl ?_
      refine g_skip rfl rfl rfl rfl ?_
      refine g_skip rfl rfl rfl rfl ?_
      refine g_skip rfl rfl rfl rfl ?_
      refine r_pickT rfl rfl rfl rfl ?_
      refine r_assign rfl rfl ?_
      refine awl_nil ?_
      refine x_then ?_
      refine awp_ret ?_
      exact ⟨(.inl rfl), _, [], (.one (by first | exact .mk rfl rfl | exact .nil rfl)), ⟨rfl, by first | (simp only [bareF, h4, ht, Bool.not_true, Bool.not_false, Bool.true_and, Bool.and_true, Bool.false_and, Bool.and_false]; rfl) | (simp only [bareF, h4, hl, Bool.not_true, Bool.not_false, Bool.true_and, Bool.and_true, Bool.false_and, Bool.true_or]; rfl) | (simp only [bareF, h4, ht, hl, Bool.not_true, Bool.not_false, Bool.true_and, Bool.and_true, Bool.false_and, Bool.true_or]; rfl) | (simp only [bareF, h4, hl, h1, Bool.not_true, Bool.not_false, Bool.true_and, Bool.and_true, Bool.false_and, Bool.true_or, Bool.false_or]; rfl) | (simp only [bareF, h4, ht, hl, h1, Bool.not_true, Bool.not_false, Bool.true_and, Bool.and_true, Bool.false_and, Bool.true_or, Bool.false_or]; rfl)⟩, (List.nil_sublist _), (by simp)⟩
    ·
      have hl : decide (c.data.length = 0) = false := by simp [u8s_len] at hg15; simpa using hg15
      refine g_run rfl rfl hg15 ?_
      first | (refine r_fieldb rfl TF.f50_0 TF.sz3 rfl ?_) | (refine r_fieldcp rfl TF.f50_0 TF.sz3 rfl ?_)
      refine g_run rfl rfl hg15 ?_
      first | (refine r_load1b 0 rfl rfl rfl TF.agg3 rfl ?_) | (refine r_load1 rfl TF.agg3 rfl ?_)
      refine g_run rfl rfl hg15 ?_
      refine r_cmp rfl rfl rfl rfl ?_
      refine r_pickF rfl hg15 rfl rfl ?_
      refine r_move rfl rfl ?_
      refine g_cases (t' := 20) rfl (fun hg20 => ?_) (fun hg20 => ?_)
      ·
        have h1 : (c.kind == 1) = true := hg20
        refine g_skip rfl rfl hg20 rfl ?_
        refine g_skip rfl rfl hg20 rfl ?_
        refine g_skip rfl rfl hg20 rfl ?_
        refine r_pickT rfl hg20 rfl rfl ?_
        refine r_assign rfl rfl ?_
        refine awl_nil ?_
        refine x_then ?_
        refine awp_ret ?_
        exact ⟨(.inl rfl), _, [], (.one (by first | exact .mk rfl rfl | exact .nil rfl)), ⟨rfl, by first | (simp only [bareF, h4, ht, Bool.not_true, Bool.not_false, Bool.true_and, Bool.and_true, Bool.false_and, Bool.and_false]; rfl) | (simp only [bareF, h4, hl, Bool.not_true, Bool.not_false, Bool.true_and, Bool.and_true, Bool.false_and, Bool.true_or]; rfl) | (simp only [bareF, h4, ht, hl, Bool.not_true, Bool.not_false, Bool.true_and, Bool.and_true, Bool.false_and, Bool.true_or]; rfl) | (simp only [bareF, h4, hl, h1, Bool.not_true, Bool.not_false, Bool.true_and, Bool.and_true, Bool.false_and, Bool.true_or, Bool.false_or]; rfl) | (simp only [bareF, h4, ht, hl, h1, Bool.not_true, Bool.not_false, Bool.true_and, Bool.and_true, Bool.false_and, Bool.true_or, Bool.false_or]; rfl)⟩, (List.nil_sublist _), (by simp)⟩
      ·
        have h1 : (c.kind == 1) = false := hg20
        refine g_run rfl rfl hg20 ?_
        first | (refine r_fieldb rfl TF.f50_0 TF.sz3 rfl ?_) | (refine r_fieldcp rfl TF.f50_0 TF.sz3 rfl ?_)
        refine g_run rfl rfl hg20 ?_
        first | (refine r_load1b 0 rfl rfl rfl TF.agg3 rfl ?_) | (refine r_load1 rfl TF.agg3 rfl ?_)
        refine g_run rfl rfl hg20 ?_
        refine r_cmp rfl rfl rfl rfl ?_
        refine r_pickF rfl hg20 rfl rfl ?_
        refine r_assign rfl rfl ?_
        refine awl_nil ?_
        refine x_then ?_
        refine awp_ret ?_
        exact ⟨(.inl rfl), _, [], (.one (by first | exact .mk rfl rfl | exact .nil rfl)), ⟨rfl, by first | (simp only [bareF, h4, ht, Bool.not_true, Bool.not_false, Bool.true_and, Bool.and_true, Bool.false_and, Bool.and_false]; rfl) | (simp only [bareF, h4, hl, Bool.not_true, Bool.not_false, Bool.true_and, Bool.and_true, Bool.false_and, Bool.true_or]; rfl) | (simp only [bareF, h4, ht, hl, Bool.not_true, Bool.not_false, Bool.true_and, Bool.and_true, Bool.false_and, Bool.true_or]; rfl) | (simp only [bareF, h4, hl, h1, Bool.not_true, Bool.not_false, Bool.true_and, Bool.and_true, Bool.false_and, Bool.true_or, Bool.false_or]; rfl) | (simp only [bareF, h4, ht, hl, h1, Bool.not_true, Bool.not_false, Bool.true_and, Bool.and_true, Bool.false_and, Bool.true_or, Bool.false_or]; rfl)⟩, (List.nil_sublist _), (by simp)⟩

set_option maxHeartbeats 1000000 in
theorem right_ok (d : List FC) (hd0 : d.length ≤ 10000) : AC Try.prog 19 [fcsA d] [] (fun r n => n = [] ∧ r = boolA (rightF d)) := by
  refine ac_of_awp (rs := [2]) (nt := 87) Try.func19 rfl rfl rfl rfl (fun w0 C0 hq => ?_)
  refine awp_seq ?_
  refine awp_region ?_
  refine r_assign rfl rfl ?_
  refine awl_nil ?_
  refine x_then ?_
  refine awp_seq ?_
  refine awp_region ?_
  refine r_makeMap (ek := Value.string) (ev := boolA) [] rfl rfl (fun b9 => ?_)
  refine r_assign rfl rfl ?_
  refine awl_nil ?_
  refine x_then ?_
  refine awp_seq ?_
  refine awp_seq ?_
  refine awp_region ?_
  refine r_move rfl rfl ?_
  first | (refine r_lenS rfl rfl TF.sl28 rfl ?_) | (refine r_lenNil rfl TF.sl28 rfl ?_) | (refine r_lenV rfl TF.sl28 rfl ?_)
  refine r_move rfl rfl ?_
  refine awl_nil ?_
  refine x_then ?_
  refine awp_block ?_
  refine awp_loop (fun nn0 S => ∃ k : Nat, ∃ m : List (ByteArray × Bool), S = ⟨87, [(0, .a (fcsA d)), (3, .a (.v (.map (some b9)))), (10, .a (fcsA d)), (11, .a (.v (.int .i64 ((d.map FC.cs).length)))), (12, .a (.v (.int .i64 ((k : Int)))))], [⟨b9, true, .map (encM Value.string boolA m)⟩]⟩ ∧ nn0 = d.length - k ∧ (k ≤ d.length) ∧ (∀ i, i < k → okC d i = true) ∧ (((d.take k).flatMap namesC).Nodup) ∧ (HasS m ((d.take k).flatMap namesC))) (d.length - (0)) ⟨87, [(0, .a (fcsA d)), (3, .a (.v (.map (some b9)))), (10, .a (fcsA d)), (11, .a (.v (.int .i64 ((d.map FC.cs).length)))), (12, .a (.v (.int .i64 (((0) : Int)))))], [⟨b9, true, .map (encM Value.string boolA ([]))⟩]⟩ ⟨rfl, (Slots.cons rfl (by first | exact .refl _ | exact .nilOwn _ _ | exact .nilSl _ | exact .ownSl _ _ _  | exact SV.le.of_eq (by simp)) (Slots.cons rfl (by first | exact .refl _ | exact .nilOwn _ _ | exact .nilSl _ | exact .ownSl _ _ _  | exact SV.le.of_eq (by simp)) (Slots.cons rfl (by first | exact .refl _ | exact .nilOwn _ _ | exact .nilSl _ | exact .ownSl _ _ _  | exact SV.le.of_eq (by simp)) (Slots.cons rfl (by first | exact .refl _ | exact .nilOwn _ _ | exact .nilSl _ | exact .ownSl _ _ _  | exact SV.le.of_eq (by simp)) (Slots.cons rfl (by first | exact .refl _ | exact .nilOwn _ _ | exact .nilSl _ | exact .ownSl _ _ _  | exact SV.le.of_eq (by simp)) Slots.nil))))), (by first | exact List.Sublist.refl _ | exact .cons_cons _ (.cons _ (.refl _)) | exact List.nil_sublist _ | exact .cons _ (.refl _) | exact .cons _ (.cons _ (.refl _)) | exact .cons _ (.cons _ (.cons _ (.refl _))) | exact .cons _ (.cons _ (.cons _ (.cons _ (.refl _)))) | exact .cons_cons _ (List.nil_sublist _))⟩ ⟨0, [], rfl, rfl, Nat.zero_le _, (fun i hi => by omega), (by simp), hasS_nil⟩ ?_
  rintro nn0 _ ⟨k, m, rfl, rfl, hk, hall, hnd, hm⟩
  refine awp_seq ?_
  refine awp_region ?_
  refine r_cmp rfl rfl rfl rfl ?_
  refine awl_nil ?_
  refine x_then ?_
  refine awp_seq ?_
  refine awp_cond rfl (fun hc0 => ?_) (fun hc0 => ?_)
  ·
    have hltx : k < d.length := by have := of_decide_eq_true hc0; simpa using this
    obtain ⟨x, hx⟩ := get_lt hltx
    refine awp_skip ?_
    refine x_then ?_
    refine awp_seq ?_
    refine awp_block ?_
    refine awp_seq ?_
    refine awp_region ?_
    refine r_move rfl rfl ?_
    refine r_index rfl rfl rfl TF.sl28 TF.sz50 (by omega) (get_map hx) rfl ?_
    first | (refine r_loadA rfl TF.agg50 TF.sz50 rfl rfl ?_) | (refine r_loadAb 0 rfl rfl TF.agg50 TF.sz50 rfl rfl ?_)
    refine r_alloc TF.zero50 rfl (fun b5 => ?_)
    refine r_assign rfl rfl ?_
    first | (refine r_store 0 rfl rfl rfl TF.sz50 rfl rfl rfl ?_) | (refine r_store 1 rfl rfl rfl TF.sz50 rfl rfl rfl ?_)
    refine awl_nil ?_
    refine x_then ?_
    refine awp_seq ?_
    refine awp_seq ?_
    refine awp_region ?_
    first | (refine r_fieldb rfl TF.f50_0 TF.sz3 rfl ?_) | (refine r_fieldcp rfl TF.f50_0 TF.sz3 rfl ?_)
    first | (refine r_load1b 0 rfl rfl rfl TF.agg3 rfl ?_) | (refine r_load1 rfl TF.agg3 rfl ?_) | (refine r_load1b 1 rfl rfl rfl TF.agg3 rfl ?_)
    refine r_call0 hq rfl rfl (.cons (.ev rfl rfl) .nil) (rank_ok x.kind) rfl TF.en35 rfl (fun r hr => ?_)
    obtain rfl := hr
    refine r_cmp rfl rfl rfl rfl ?_
    refine r_move rfl rfl ?_
    refine g_cases (t' := 21) rfl (fun hg21 => ?_) (fun hg21 => ?_)
    ·
      have hbad : okC d k = false := by simp only [okC, hx, hg21]; rfl
      refine g_skip rfl rfl hg21 rfl ?_
      refine g_skip rfl rfl hg21 rfl ?_
      refine g_skip rfl rfl hg21 rfl ?_
      refine r_pickT rfl hg21 rfl rfl ?_
      refine awl_nil ?_
      refine x_then ?_
      refine awp_condT rfl ?_
      refine awp_seq ?_
      refine awp_region ?_
      refine r_assign rfl rfl ?_
      refine awl_nil ?_
      refine x_then ?_
      refine awp_ret ?_
      refine x_thenR ?_
      refine x_blockR ?_
      refine x_thenR ?_
      refine x_thenR ?_
      refine x_blockR ?_
      refine x_thenR ?_
      exact ⟨(.inl rfl), _, [], (.one (by first | exact .mk rfl rfl | exact .nil rfl)), ⟨rfl, by first | (rw [right_bad hltx hbad]; rfl) | (rw [right_dup hx hs ((hm2 s).1 hc5)]; rfl) | (rw [right_good (fun i hi => hall i (by omega)) hnd]; rfl)⟩, (List.nil_sublist _), (by simp)⟩
    ·
      refine g_run rfl rfl hg21 ?_
      first | (refine r_loadAb 0 rfl rfl TF.agg50 TF.sz50 rfl rfl ?_) | (refine r_loadA rfl TF.agg50 TF.sz50 rfl rfl ?_) | (refine r_loadAb 1 rfl rfl TF.agg50 TF.sz50 rfl rfl ?_)
      refine g_run rfl rfl hg21 ?_
      refine r_call0 hq rfl rfl (.cons (.ev rfl rfl) .nil) (bare_ok x) rfl TF.en36 rfl (fun r hr => ?_)
      obtain rfl := hr
      refine g_run rfl rfl hg21 ?_
      refine r_not rfl rfl ?_
      refine r_pickF rfl hg21 rfl rfl ?_
      refine awl_nil ?_
      refine x_then ?_
      refine awp_cond rfl (fun hc1 => ?_) (fun hc1 => ?_)
      ·
        have hbad : okC d k = false := by simp only [okC, hx, hg21, show bareF x = false by simpa using hc1]; rfl
        refine awp_seq ?_
        refine awp_region ?_
        refine r_assign rfl rfl ?_
        refine awl_nil ?_
        refine x_then ?_
        refine awp_ret ?_
        refine x_thenR ?_
        refine x_blockR ?_
        refine x_thenR ?_
        refine x_thenR ?_
        refine x_blockR ?_
        refine x_thenR ?_
        exact ⟨(.inl rfl), _, [], (.one (by first | exact .mk rfl rfl | exact .nil rfl)), ⟨rfl, by first | (rw [right_bad hltx hbad]; rfl) | (rw [right_dup hx hs ((hm2 s).1 hc5)]; rfl) | (rw [right_good (fun i hi => hall i (by omega)) hnd]; rfl)⟩, (List.nil_sublist _), (by simp)⟩
      ·
        have hbr : bareF x = true := by simpa using hc1
        refine awp_skip ?_
        refine x_then ?_
        refine awp_seq ?_
        refine awp_seq ?_
        rcases Bool.eq_false_or_eq_true (decide ((k : Int) > 0)) with hg28 | hg28
        ·
          have hk0 : 0 < k := by have := of_decide_eq_true hg28; omega
          obtain ⟨y, hy⟩ := get_lt (show k - 1 < d.length by omega)
          rcases Bool.eq_false_or_eq_true (decide (rankF y.kind > rankF x.kind)) with hg40 | hg40
          ·
            have hbad : okC d k = false := by simp only [okC, hx, hg21, hy, hbr, decide_eq_true hk0, pairF, hg40]; rfl
            refine awp_drawS [26, 27, 28, 29, 30, 31, 32, 33, 34, 35, 36, 37, 38, 39, 40, 41, 42, 43, 44, 45, 46, 47, 48, 49, 50, 51, 52, 53, 54, 55, 56, 57, 58] [_, _, _, _, _, _, _, _, _, _, _, _, _, _, _, _, _, _, _, _, _, _, _, _, _, _, _, _, _, _, _, _, _] [] [] TF.mixed rfl rfl rfl ⟨⟨⟨⟨⟨⟨⟨⟨⟨⟨⟨⟨⟨⟨⟨⟨⟨⟨⟨⟨⟨⟨⟨⟨⟨⟨⟨⟨⟨⟨⟨⟨⟨trivial
              , ⟨_, rfl, fun sl hd hr ho => by
                  refine r_move (hr 4 _ rfl rfl rfl) rfl ?_
                  exact awl_nil ⟨rfl, post_put⟩⟩⟩
              , ⟨_, rfl, fun sl hd hr ho => by
                  refine r_cmp (hd 0 _ rfl rfl rfl) rfl rfl rfl ?_
                  exact awl_nil ⟨rfl, post_put⟩⟩⟩
              , ⟨_, rfl, fun sl hd hr ho => by
                  refine r_move (hd 1 _ rfl rfl rfl) rfl ?_
                  exact awl_nil ⟨rfl, post_put⟩⟩⟩
              , ⟨_, rfl, fun sl hd hr ho => by
                  refine g_run rfl (hd 2 _ rfl rfl rfl) hg28 ?_
                  refine r_move (hr 0 _ rfl rfl rfl) rfl ?_
                  exact awl_nil ⟨rfl, post_put⟩⟩⟩
              , ⟨_, rfl, fun sl hd hr ho => by
                  refine g_run rfl (hd 2 _ rfl rfl rfl) hg28 ?_
                  refine r_move (hr 4 _ rfl rfl rfl) rfl ?_
                  exact awl_nil ⟨rfl, post_put⟩⟩⟩
              , ⟨_, rfl, fun sl hd hr ho => by
                  refine g_run rfl (hd 2 _ rfl rfl rfl) hg28 ?_
                  refine r_ari _ (hd 4 _ rfl rfl rfl) rfl rfl (wrap_id (by first | omega | (simp; omega))) rfl ?_
                  exact awl_nil ⟨rfl, post_put⟩⟩⟩
              , ⟨_, rfl, fun sl hd hr ho => by
                  refine g_run rfl (hd 2 _ rfl rfl rfl) hg28 ?_
                  refine r_index (hd 3 _ rfl rfl rfl) rfl (hd 5 _ rfl rfl rfl) TF.sl28 TF.sz50 (by omega) (by rw [show ((k : Int) - 1).toNat = k - 1 by omega]; exact get_map hy) rfl ?_
                  exact awl_nil ⟨rfl, post_put⟩⟩⟩
              , ⟨_, rfl, fun sl hd hr ho => by
                  refine g_run rfl (hd 2 _ rfl rfl rfl) hg28 ?_
                  first | (refine r_fieldb (hd 6 _ rfl rfl rfl) TF.f50_0 TF.sz3 rfl ?_) | (refine r_fieldcp (hd 6 _ rfl rfl rfl) TF.f50_0 TF.sz3 rfl ?_)
                  exact awl_nil ⟨rfl, post_put⟩⟩⟩
              , ⟨_, rfl, fun sl hd hr ho => by
                  refine g_run rfl (hd 2 _ rfl rfl rfl) hg28 ?_
                  first | (refine r_load1b 0 (hd 7 _ rfl rfl rfl) rfl rfl TF.agg3 rfl ?_) | (refine r_load1 (hd 7 _ rfl rfl rfl) TF.agg3 rfl ?_) | (refine r_load1b 1 (hd 7 _ rfl rfl rfl) rfl rfl TF.agg3 rfl ?_)
                  exact awl_nil ⟨rfl, post_put⟩⟩⟩
              , ⟨_, rfl, fun sl hd hr ho => by
                  refine g_run rfl (hd 2 _ rfl rfl rfl) hg28 ?_
                  refine r_call0 hq rfl rfl (.cons (.ev (hd 8 _ rfl rfl rfl) rfl) .nil) (rank_ok y.kind) rfl TF.en35 rfl (fun r hr => ?_)
                  obtain rfl := hr
                  exact awl_nil ⟨rfl, post_put⟩⟩⟩
              , ⟨_, rfl, fun sl hd hr ho => by
                  refine g_run rfl (hd 2 _ rfl rfl rfl) hg28 ?_
                  first | (refine r_fieldb (hr 5 _ rfl rfl rfl) TF.f50_0 TF.sz3 rfl ?_) | (refine r_fieldcp (hr 5 _ rfl rfl rfl) TF.f50_0 TF.sz3 rfl ?_)
                  exact awl_nil ⟨rfl, post_put⟩⟩⟩
              , ⟨_, rfl, fun sl hd hr ho => by
                  refine g_run rfl (hd 2 _ rfl rfl rfl) hg28 ?_
                  first | (refine r_load1b 0 (hd 10 _ rfl rfl rfl) rfl rfl TF.agg3 rfl ?_) | (refine r_load1 (hd 10 _ rfl rfl rfl) TF.agg3 rfl ?_) | (refine r_load1b 1 (hd 10 _ rfl rfl rfl) rfl rfl TF.agg3 rfl ?_)
                  exact awl_nil ⟨rfl, post_put⟩⟩⟩
              , ⟨_, rfl, fun sl hd hr ho => by
                  refine g_run rfl (hd 2 _ rfl rfl rfl) hg28 ?_
                  refine r_call0 hq rfl rfl (.cons (.ev (hd 11 _ rfl rfl rfl) rfl) .nil) (rank_ok x.kind) rfl TF.en35 rfl (fun r hr => ?_)
                  obtain rfl := hr
                  exact awl_nil ⟨rfl, post_put⟩⟩⟩
              , ⟨_, rfl, fun sl hd hr ho => by
                  refine g_run rfl (hd 2 _ rfl rfl rfl) hg28 ?_
                  refine r_cmp (hd 9 _ rfl rfl rfl) (hd 12 _ rfl rfl rfl) rfl rfl ?_
                  exact awl_nil ⟨rfl, post_put⟩⟩⟩
              , ⟨_, rfl, fun sl hd hr ho => by
                  refine g_run rfl (hd 2 _ rfl rfl rfl) hg28 ?_
                  refine r_move (hd 13 _ rfl rfl rfl) rfl ?_
                  exact awl_nil ⟨rfl, post_put⟩⟩⟩
              , ⟨_, rfl, fun sl hd hr ho => by
                  refine g_skip rfl (hd 14 _ rfl rfl rfl) hg40 rfl ?_
                  exact awl_nil ⟨rfl, post_put⟩⟩⟩
              , ⟨_, rfl, fun sl hd hr ho => by
                  refine g_skip rfl (hd 14 _ rfl rfl rfl) hg40 rfl ?_
                  exact awl_nil ⟨rfl, post_put⟩⟩⟩
              , ⟨_, rfl, fun sl hd hr ho => by
                  refine g_skip rfl (hd 14 _ rfl rfl rfl) hg40 rfl ?_
                  exact awl_nil ⟨rfl, post_put⟩⟩⟩
              , ⟨_, rfl, fun sl hd hr ho => by
                  refine g_skip rfl (hd 14 _ rfl rfl rfl) hg40 rfl ?_
                  exact awl_nil ⟨rfl, post_put⟩⟩⟩
              , ⟨_, rfl, fun sl hd hr ho => by
                  refine g_skip rfl (hd 14 _ rfl rfl rfl) hg40 rfl ?_
                  exact awl_nil ⟨rfl, post_put⟩⟩⟩
              , ⟨_, rfl, fun sl hd hr ho => by
                  refine g_skip rfl (hd 14 _ rfl rfl rfl) hg40 rfl ?_
                  exact awl_nil ⟨rfl, post_put⟩⟩⟩
              , ⟨_, rfl, fun sl hd hr ho => by
                  refine g_skip rfl (hd 14 _ rfl rfl rfl) hg40 rfl ?_
                  exact awl_nil ⟨rfl, post_put⟩⟩⟩
              , ⟨_, rfl, fun sl hd hr ho => by
                  refine g_skip rfl (hd 14 _ rfl rfl rfl) hg40 rfl ?_
                  exact awl_nil ⟨rfl, post_put⟩⟩⟩
              , ⟨_, rfl, fun sl hd hr ho => by
                  refine g_skip rfl (hd 14 _ rfl rfl rfl) hg40 rfl ?_
                  exact awl_nil ⟨rfl, post_put⟩⟩⟩
              , ⟨_, rfl, fun sl hd hr ho => by
                  refine g_skip rfl (hd 14 _ rfl rfl rfl) hg40 rfl ?_
                  exact awl_nil ⟨rfl, post_put⟩⟩⟩
              , ⟨_, rfl, fun sl hd hr ho => by
                  refine g_skipU rfl (hd 24 _ rfl rfl rfl) rfl ?_
                  exact awl_nil ⟨rfl, post_put⟩⟩⟩
              , ⟨_, rfl, fun sl hd hr ho => by
                  refine g_skipU rfl (hd 24 _ rfl rfl rfl) rfl ?_
                  exact awl_nil ⟨rfl, post_put⟩⟩⟩
              , ⟨_, rfl, fun sl hd hr ho => by
                  refine g_skipU rfl (hd 24 _ rfl rfl rfl) rfl ?_
                  exact awl_nil ⟨rfl, post_put⟩⟩⟩
              , ⟨_, rfl, fun sl hd hr ho => by
                  refine g_skipU rfl (hd 24 _ rfl rfl rfl) rfl ?_
                  exact awl_nil ⟨rfl, post_put⟩⟩⟩
              , ⟨_, rfl, fun sl hd hr ho => by
                  refine g_skipU rfl (hd 24 _ rfl rfl rfl) rfl ?_
                  exact awl_nil ⟨rfl, post_put⟩⟩⟩
              , ⟨_, rfl, fun sl hd hr ho => by
                  refine g_skipU rfl (hd 24 _ rfl rfl rfl) rfl ?_
                  exact awl_nil ⟨rfl, post_put⟩⟩⟩
              , ⟨_, rfl, fun sl hd hr ho => by
                  refine g_skipU rfl (hd 24 _ rfl rfl rfl) rfl ?_
                  exact awl_nil ⟨rfl, post_put⟩⟩⟩
              , ⟨_, rfl, fun sl hd hr ho => by
                  refine g_skipU rfl (hd 24 _ rfl rfl rfl) rfl ?_
                  exact awl_nil ⟨rfl, post_put⟩⟩⟩
              (by rfl) ?_
            refine g_skipU rfl rfl rfl ?_
            refine g_skip rfl rfl hg40 rfl ?_
            refine g_run rfl rfl hg28 ?_
            refine r_pickT rfl hg40 rfl rfl ?_
            refine r_pickT rfl hg28 rfl rfl ?_
            refine awl_nil ?_
            refine x_then ?_
            refine awp_condT rfl ?_
            refine awp_seq ?_
            refine awp_region ?_
            refine r_assign rfl rfl ?_
            refine awl_nil ?_
            refine x_then ?_
            refine awp_ret ?_
            refine x_thenR ?_
            refine x_blockR ?_
            refine x_thenR ?_
            refine x_thenR ?_
            refine x_blockR ?_
            refine x_thenR ?_
            exact ⟨(.inl rfl), _, [], (.one (by first | exact .mk rfl rfl | exact .nil rfl)), ⟨rfl, by first | (rw [right_bad hltx hbad]; rfl) | (rw [right_dup hx hs ((hm2 s).1 hc5)]; rfl) | (rw [right_good (fun i hi => hall i (by omega)) hnd]; rfl)⟩, (List.nil_sublist _), (by simp)⟩
          ·
            rcases Bool.eq_false_or_eq_true (y.kind == x.kind) with hg50 | hg50
            ·
              refine awp_drawS [26, 27, 28, 29, 30, 31, 32, 33, 34, 35, 36, 37, 38, 39, 40, 41, 42, 43, 44, 45, 46, 47, 48, 49, 50, 51, 52, 53, 54, 55, 56, 57, 58] [_, _, _, _, _, _, _, _, _, _, _, _, _, _, _, _, _, _, _, _, _, _, _, _, _, _, _, _, _, _, _, _, _] [] [] TF.mixed rfl rfl rfl ⟨⟨⟨⟨⟨⟨⟨⟨⟨⟨⟨⟨⟨⟨⟨⟨⟨⟨⟨⟨⟨⟨⟨⟨⟨⟨⟨⟨⟨⟨⟨⟨⟨trivial
                , ⟨_, rfl, fun sl hd hr ho => by
                    refine r_move (hr 4 _ rfl rfl rfl) rfl ?_
                    exact awl_nil ⟨rfl, post_put⟩⟩⟩
                , ⟨_, rfl, fun sl hd hr ho => by
                    refine r_cmp (hd 0 _ rfl rfl rfl) rfl rfl rfl ?_
                    exact awl_nil ⟨rfl, post_put⟩⟩⟩
                , ⟨_, rfl, fun sl hd hr ho => by
                    refine r_move (hd 1 _ rfl rfl rfl) rfl ?_
                    exact awl_nil ⟨rfl, post_put⟩⟩⟩
                , ⟨_, rfl, fun sl hd hr ho => by
                    refine g_run rfl (hd 2 _ rfl rfl rfl) hg28 ?_
                    refine r_move (hr 0 _ rfl rfl rfl) rfl ?_
                    exact awl_nil ⟨rfl, post_put⟩⟩⟩
                , ⟨_, rfl, fun sl hd hr ho => by
                    refine g_run rfl (hd 2 _ rfl rfl rfl) hg28 ?_
                    refine r_move (hr 4 _ rfl rfl rfl) rfl ?_
                    exact awl_nil ⟨rfl, post_put⟩⟩⟩
                , ⟨_, rfl, fun sl hd hr ho => by
                    refine g_run rfl (hd 2 _ rfl rfl rfl) hg28 ?_
                    refine r_ari _ (hd 4 _ rfl rfl rfl) rfl rfl (wrap_id (by first | omega | (simp; omega))) rfl ?_
                    exact awl_nil ⟨rfl, post_put⟩⟩⟩
                , ⟨_, rfl, fun sl hd hr ho => by
                    refine g_run rfl (hd 2 _ rfl rfl rfl) hg28 ?_
                    refine r_index (hd 3 _ rfl rfl rfl) rfl (hd 5 _ rfl rfl rfl) TF.sl28 TF.sz50 (by omega) (by rw [show ((k : Int) - 1).toNat = k - 1 by omega]; exact get_map hy) rfl ?_
                    exact awl_nil ⟨rfl, post_put⟩⟩⟩
                , ⟨_, rfl, fun sl hd hr ho => by
                    refine g_run rfl (hd 2 _ rfl rfl rfl) hg28 ?_
                    first | (refine r_fieldb (hd 6 _ rfl rfl rfl) TF.f50_0 TF.sz3 rfl ?_) | (refine r_fieldcp (hd 6 _ rfl rfl rfl) TF.f50_0 TF.sz3 rfl ?_)
                    exact awl_nil ⟨rfl, post_put⟩⟩⟩
                , ⟨_, rfl, fun sl hd hr ho => by
                    refine g_run rfl (hd 2 _ rfl rfl rfl) hg28 ?_
                    first | (refine r_load1b 0 (hd 7 _ rfl rfl rfl) rfl rfl TF.agg3 rfl ?_) | (refine r_load1 (hd 7 _ rfl rfl rfl) TF.agg3 rfl ?_) | (refine r_load1b 1 (hd 7 _ rfl rfl rfl) rfl rfl TF.agg3 rfl ?_)
                    exact awl_nil ⟨rfl, post_put⟩⟩⟩
                , ⟨_, rfl, fun sl hd hr ho => by
                    refine g_run rfl (hd 2 _ rfl rfl rfl) hg28 ?_
                    refine r_call0 hq rfl rfl (.cons (.ev (hd 8 _ rfl rfl rfl) rfl) .nil) (rank_ok y.kind) rfl TF.en35 rfl (fun r hr => ?_)
                    obtain rfl := hr
                    exact awl_nil ⟨rfl, post_put⟩⟩⟩
                , ⟨_, rfl, fun sl hd hr ho => by
                    refine g_run rfl (hd 2 _ rfl rfl rfl) hg28 ?_
                    first | (refine r_fieldb (hr 5 _ rfl rfl rfl) TF.f50_0 TF.sz3 rfl ?_) | (refine r_fieldcp (hr 5 _ rfl rfl rfl) TF.f50_0 TF.sz3 rfl ?_)
                    exact awl_nil ⟨rfl, post_put⟩⟩⟩
                , ⟨_, rfl, fun sl hd hr ho => by
                    refine g_run rfl (hd 2 _ rfl rfl rfl) hg28 ?_
                    first | (refine r_load1b 0 (hd 10 _ rfl rfl rfl) rfl rfl TF.agg3 rfl ?_) | (refine r_load1 (hd 10 _ rfl rfl rfl) TF.agg3 rfl ?_) | (refine r_load1b 1 (hd 10 _ rfl rfl rfl) rfl rfl TF.agg3 rfl ?_)
                    exact awl_nil ⟨rfl, post_put⟩⟩⟩
                , ⟨_, rfl, fun sl hd hr ho => by
                    refine g_run rfl (hd 2 _ rfl rfl rfl) hg28 ?_
                    refine r_call0 hq rfl rfl (.cons (.ev (hd 11 _ rfl rfl rfl) rfl) .nil) (rank_ok x.kind) rfl TF.en35 rfl (fun r hr => ?_)
                    obtain rfl := hr
                    exact awl_nil ⟨rfl, post_put⟩⟩⟩
                , ⟨_, rfl, fun sl hd hr ho => by
                    refine g_run rfl (hd 2 _ rfl rfl rfl) hg28 ?_
                    refine r_cmp (hd 9 _ rfl rfl rfl) (hd 12 _ rfl rfl rfl) rfl rfl ?_
                    exact awl_nil ⟨rfl, post_put⟩⟩⟩
                , ⟨_, rfl, fun sl hd hr ho => by
                    refine g_run rfl (hd 2 _ rfl rfl rfl) hg28 ?_
                    refine r_move (hd 13 _ rfl rfl rfl) rfl ?_
                    exact awl_nil ⟨rfl, post_put⟩⟩⟩
                , ⟨_, rfl, fun sl hd hr ho => by
                    refine g_run rfl (hd 14 _ rfl rfl rfl) hg40 ?_
                    refine r_move (hr 0 _ rfl rfl rfl) rfl ?_
                    exact awl_nil ⟨rfl, post_put⟩⟩⟩
                , ⟨_, rfl, fun sl hd hr ho => by
                    refine g_run rfl (hd 14 _ rfl rfl rfl) hg40 ?_
                    refine r_move (hr 4 _ rfl rfl rfl) rfl ?_
                    exact awl_nil ⟨rfl, post_put⟩⟩⟩
                , ⟨_, rfl, fun sl hd hr ho => by
                    refine g_run rfl (hd 14 _ rfl rfl rfl) hg40 ?_
                    refine r_ari _ (hd 16 _ rfl rfl rfl) rfl rfl (wrap_id (by first | omega | (simp; omega))) rfl ?_
                    exact awl_nil ⟨rfl, post_put⟩⟩⟩
                , ⟨_, rfl, fun sl hd hr ho => by
                    refine g_run rfl (hd 14 _ rfl rfl rfl) hg40 ?_
                    refine r_index (hd 15 _ rfl rfl rfl) rfl (hd 17 _ rfl rfl rfl) TF.sl28 TF.sz50 (by omega) (by rw [show ((k : Int) - 1).toNat = k - 1 by omega]; exact get_map hy) rfl ?_
                    exact awl_nil ⟨rfl, post_put⟩⟩⟩
                , ⟨_, rfl, fun sl hd hr ho => by
                    refine g_run rfl (hd 14 _ rfl rfl rfl) hg40 ?_
                    first | (refine r_fieldb (hd 18 _ rfl rfl rfl) TF.f50_0 TF.sz3 rfl ?_) | (refine r_fieldcp (hd 18 _ rfl rfl rfl) TF.f50_0 TF.sz3 rfl ?_)
                    exact awl_nil ⟨rfl, post_put⟩⟩⟩
                , ⟨_, rfl, fun sl hd hr ho => by
                    refine g_run rfl (hd 14 _ rfl rfl rfl) hg40 ?_
                    first | (refine r_load1b 0 (hd 19 _ rfl rfl rfl) rfl rfl TF.agg3 rfl ?_) | (refine r_load1 (hd 19 _ rfl rfl rfl) TF.agg3 rfl ?_) | (refine r_load1b 1 (hd 19 _ rfl rfl rfl) rfl rfl TF.agg3 rfl ?_)
                    exact awl_nil ⟨rfl, post_put⟩⟩⟩
                , ⟨_, rfl, fun sl hd hr ho => by
                    refine g_run rfl (hd 14 _ rfl rfl rfl) hg40 ?_
                    first | (refine r_fieldb (hr 5 _ rfl rfl rfl) TF.f50_0 TF.sz3 rfl ?_) | (refine r_fieldcp (hr 5 _ rfl rfl rfl) TF.f50_0 TF.sz3 rfl ?_)
                    exact awl_nil ⟨rfl, post_put⟩⟩⟩
                , ⟨_, rfl, fun sl hd hr ho => by
                    refine g_run rfl (hd 14 _ rfl rfl rfl) hg40 ?_
                    first | (refine r_load1b 0 (hd 21 _ rfl rfl rfl) rfl rfl TF.agg3 rfl ?_) | (refine r_load1 (hd 21 _ rfl rfl rfl) TF.agg3 rfl ?_) | (refine r_load1b 1 (hd 21 _ rfl rfl rfl) rfl rfl TF.agg3 rfl ?_)
                    exact awl_nil ⟨rfl, post_put⟩⟩⟩
                , ⟨_, rfl, fun sl hd hr ho => by
                    refine g_run rfl (hd 14 _ rfl rfl rfl) hg40 ?_
                    refine r_cmp (hd 20 _ rfl rfl rfl) (hd 22 _ rfl rfl rfl) rfl rfl ?_
                    exact awl_nil ⟨rfl, post_put⟩⟩⟩
                , ⟨_, rfl, fun sl hd hr ho => by
                    refine g_run rfl (hd 14 _ rfl rfl rfl) hg40 ?_
                    refine r_move (hd 23 _ rfl rfl rfl) rfl ?_
                    exact awl_nil ⟨rfl, post_put⟩⟩⟩
                , ⟨_, rfl, fun sl hd hr ho => by
                    refine g_run rfl (hd 24 _ rfl rfl rfl) hg50 ?_
                    refine r_move (hr 0 _ rfl rfl rfl) rfl ?_
                    exact awl_nil ⟨rfl, post_put⟩⟩⟩
                , ⟨_, rfl, fun sl hd hr ho => by
                    refine g_run rfl (hd 24 _ rfl rfl rfl) hg50 ?_
                    refine r_move (hr 4 _ rfl rfl rfl) rfl ?_
                    exact awl_nil ⟨rfl, post_put⟩⟩⟩
                , ⟨_, rfl, fun sl hd hr ho => by
                    refine g_run rfl (hd 24 _ rfl rfl rfl) hg50 ?_
                    refine r_ari _ (hd 26 _ rfl rfl rfl) rfl rfl (wrap_id (by first | omega | (simp; omega))) rfl ?_
                    exact awl_nil ⟨rfl, post_put⟩⟩⟩
                , ⟨_, rfl, fun sl hd hr ho => by
                    refine g_run rfl (hd 24 _ rfl rfl rfl) hg50 ?_
                    refine r_index (hd 25 _ rfl rfl rfl) rfl (hd 27 _ rfl rfl rfl) TF.sl28 TF.sz50 (by omega) (by rw [show ((k : Int) - 1).toNat = k - 1 by omega]; exact get_map hy) rfl ?_
                    exact awl_nil ⟨rfl, post_put⟩⟩⟩
                , ⟨_, rfl, fun sl hd hr ho => by
                    refine g_run rfl (hd 24 _ rfl rfl rfl) hg50 ?_
                    first | (refine r_fieldb (hd 28 _ rfl rfl rfl) TF.f50_1 TF.sz9 rfl ?_) | (refine r_fieldcp (hd 28 _ rfl rfl rfl) TF.f50_1 TF.sz9 rfl ?_)
                    exact awl_nil ⟨rfl, post_put⟩⟩⟩
                , ⟨_, rfl, fun sl hd hr ho => by
                    refine g_run rfl (hd 24 _ rfl rfl rfl) hg50 ?_
                    first | (refine r_load1b 0 (hd 29 _ rfl rfl rfl) rfl rfl TF.agg9 rfl ?_) | (refine r_load1 (hd 29 _ rfl rfl rfl) TF.agg9 rfl ?_) | (refine r_load1b 1 (hd 29 _ rfl rfl rfl) rfl rfl TF.agg9 rfl ?_)
                    exact awl_nil ⟨rfl, post_put⟩⟩⟩
                , ⟨_, rfl, fun sl hd hr ho => by
                    refine g_run rfl (hd 24 _ rfl rfl rfl) hg50 ?_
                    first | (refine r_fieldb (hr 5 _ rfl rfl rfl) TF.f50_1 TF.sz9 rfl ?_) | (refine r_fieldcp (hr 5 _ rfl rfl rfl) TF.f50_1 TF.sz9 rfl ?_)
                    exact awl_nil ⟨rfl, post_put⟩⟩⟩
                , ⟨_, rfl, fun sl hd hr ho => by
                    refine g_run rfl (hd 24 _ rfl rfl rfl) hg50 ?_
                    first | (refine r_load1b 0 (hd 31 _ rfl rfl rfl) rfl rfl TF.agg9 rfl ?_) | (refine r_load1 (hd 31 _ rfl rfl rfl) TF.agg9 rfl ?_) | (refine r_load1b 1 (hd 31 _ rfl rfl rfl) rfl rfl TF.agg9 rfl ?_)
                    exact awl_nil ⟨rfl, post_put⟩⟩⟩
                (by rfl) ?_
              refine g_run rfl rfl hg50 ?_
              refine r_str2 rfl rfl rfl rfl ?_
              refine g_run rfl rfl hg40 ?_
              refine r_pickT rfl hg50 rfl rfl ?_
              refine g_run rfl rfl hg28 ?_
              refine r_pickF rfl hg40 rfl rfl ?_
              refine r_pickT rfl hg28 rfl rfl ?_
              refine awl_nil ?_
              refine x_then ?_
              refine awp_cond rfl (fun hc2 => ?_) (fun hc2 => ?_)
              ·
                have hbad : okC d k = false := by simp only [okC, hx, hg21, hy, hbr, decide_eq_true hk0, pairF, hg40, hg50, hc2]; rfl
                refine awp_seq ?_
                refine awp_region ?_
                refine r_assign rfl rfl ?_
                refine awl_nil ?_
                refine x_then ?_
                refine awp_ret ?_
                refine x_thenR ?_
                refine x_blockR ?_
                refine x_thenR ?_
                refine x_thenR ?_
                refine x_blockR ?_
                refine x_thenR ?_
                exact ⟨(.inl rfl), _, [], (.one (by first | exact .mk rfl rfl | exact .nil rfl)), ⟨rfl, by first | (rw [right_bad hltx hbad]; rfl) | (rw [right_dup hx hs ((hm2 s).1 hc5)]; rfl) | (rw [right_good (fun i hi => hall i (by omega)) hnd]; rfl)⟩, (List.nil_sublist _), (by simp)⟩
              ·
                have hgood : okC d k = true := by simp only [okC, hx, hg21, hy, hbr, decide_eq_true hk0, pairF, hg40, hg50, hc2]; rfl
                refine awp_skip ?_
                refine x_then ?_
                refine awp_seq ?_
                refine awp_region ?_
                first | (refine r_fieldb rfl TF.f50_1 TF.sz9 rfl ?_) | (refine r_fieldcp rfl TF.f50_1 TF.sz9 rfl ?_)
                first | (refine r_load1b 0 rfl rfl rfl TF.agg9 rfl ?_) | (refine r_load1 rfl TF.agg9 rfl ?_) | (refine r_load1b 1 rfl rfl rfl TF.agg9 rfl ?_)
                refine r_lit 65 (parts := [(0, .tmp 64)]) rfl TF.sl57 TF.sz9 TF.zraw9 rfl rfl rfl rfl rfl rfl rfl ?_
                refine r_assign rfl rfl ?_
                refine awl_nil ?_
                refine x_then ?_
                refine awp_seq ?_
                refine awp_seq ?_
                refine awp_region ?_
                first | (refine r_fieldb rfl TF.f50_0 TF.sz3 rfl ?_) | (refine r_fieldcp rfl TF.f50_0 TF.sz3 rfl ?_)
                first | (refine r_load1b 0 rfl rfl rfl TF.agg3 rfl ?_) | (refine r_load1 rfl TF.agg3 rfl ?_) | (refine r_load1b 1 rfl rfl rfl TF.agg3 rfl ?_)
                refine r_cmp rfl rfl rfl rfl ?_
                refine awl_nil ?_
                refine x_then ?_
                refine awp_cond rfl (fun hc3 => ?_) (fun hc3 => ?_)
                ·
                  have hns : namesC x = [x.name, x.to] := by simp [namesC, (eq_of_beq hc3 : x.kind = 4)]
                  have hnsl : (namesC x).length ≤ 2 := by rw [hns]; simp
                  refine awp_region ?_
                  refine r_move rfl rfl ?_
                  first | (refine r_fieldb rfl TF.f50_2 TF.sz9 rfl ?_) | (refine r_fieldcp rfl TF.f50_2 TF.sz9 rfl ?_)
                  first | (refine r_load1b 0 rfl rfl rfl TF.agg9 rfl ?_) | (refine r_load1 rfl TF.agg9 rfl ?_) | (refine r_load1b 1 rfl rfl rfl TF.agg9 rfl ?_)
                  refine r_lit 72 (parts := [(0, .tmp 71)]) rfl TF.sl57 TF.sz9 TF.zraw9 rfl rfl rfl rfl rfl rfl rfl ?_
                  refine r_append 65 rfl (by first | exact .own _ | exact .nil) rfl (by first | exact .sl _ | exact .own _ _ | exact .nil) TF.sl57 TF.sz9 (by decide) TF.by9 TF.zlen9 (by simp [chunks] <;> omega) (by simp [chunks] <;> omega) rfl ?_
                  refine r_assign rfl rfl ?_
                  refine awl_nil ?_
                  refine x_then ?_
                  refine awp_seq ?_
                  refine awp_region ?_
                  refine r_move rfl rfl ?_
                  first | (refine r_lenS rfl rfl TF.sl57 rfl ?_) | (refine r_lenNil rfl TF.sl57 rfl ?_) | (refine r_lenV rfl TF.sl57 rfl ?_)
                  refine r_move rfl rfl ?_
                  refine awl_nil ?_
                  refine x_then ?_
                  refine awp_block ?_
                  refine awp_loop (fun nn0 S => ∃ j : Nat, ∃ m2 : List (ByteArray × Bool), S = ⟨87, [(0, .a (fcsA d)), (3, .a (.v (.map (some b9)))), (10, .a (fcsA d)), (11, .a (.v (.int .i64 ((d.map FC.cs).length)))), (12, .a (.v (.int .i64 ((k : Int))))), (74, .a (strsA (namesC x))), (75, .a (.v (.int .i64 (((namesC x).map (fun s : ByteArray => [AV.v (.string s)])).length)))), (76, .a (.v (.int .i64 ((j : Int)))))], [⟨b9, true, .map (encM Value.string boolA m2)⟩]⟩ ∧ nn0 = (namesC x).length - j ∧ (j ≤ (namesC x).length) ∧ (((d.take k).flatMap namesC ++ (namesC x).take j).Nodup) ∧ (HasS m2 ((d.take k).flatMap namesC ++ (namesC x).take j))) ((namesC x).length - (0)) ⟨87, [(0, .a (fcsA d)), (3, .a (.v (.map (some b9)))), (10, .a (fcsA d)), (11, .a (.v (.int .i64 ((d.map FC.cs).length)))), (12, .a (.v (.int .i64 ((k : Int))))), (74, .a (strsA (namesC x))), (75, .a (.v (.int .i64 (((namesC x).map (fun s : ByteArray => [AV.v (.string s)])).length)))), (76, .a (.v (.int .i64 (((0) : Int)))))], [⟨b9, true, .map (encM Value.string boolA (m))⟩]⟩ ⟨rfl, (Slots.cons rfl (by first | exact .refl _ | exact .nilOwn _ _ | exact .nilSl _ | exact .ownSl _ _ _  | exact SV.le.ownEq (by first | rfl | (rw [hns]; rfl) | (rw [hns]; simp [chunks])) | exact SV.le.of_eq (by first | rfl | (rw [hns]; rfl) | (rw [hns]; simp [chunks]))) (Slots.cons rfl (by first | exact .refl _ | exact .nilOwn _ _ | exact .nilSl _ | exact .ownSl _ _ _  | exact SV.le.ownEq (by first | rfl | (rw [hns]; rfl) | (rw [hns]; simp [chunks])) | exact SV.le.of_eq (by first | rfl | (rw [hns]; rfl) | (rw [hns]; simp [chunks]))) (Slots.cons rfl (by first | exact .refl _ | exact .nilOwn _ _ | exact .nilSl _ | exact .ownSl _ _ _  | exact SV.le.ownEq (by first | rfl | (rw [hns]; rfl) | (rw [hns]; simp [chunks])) | exact SV.le.of_eq (by first | rfl | (rw [hns]; rfl) | (rw [hns]; simp [chunks]))) (Slots.cons rfl (by first | exact .refl _ | exact .nilOwn _ _ | exact .nilSl _ | exact .ownSl _ _ _  | exact SV.le.ownEq (by first | rfl | (rw [hns]; rfl) | (rw [hns]; simp [chunks])) | exact SV.le.of_eq (by first | rfl | (rw [hns]; rfl) | (rw [hns]; simp [chunks]))) (Slots.cons rfl (by first | exact .refl _ | exact .nilOwn _ _ | exact .nilSl _ | exact .ownSl _ _ _  | exact SV.le.ownEq (by first | rfl | (rw [hns]; rfl) | (rw [hns]; simp [chunks])) | exact SV.le.of_eq (by first | rfl | (rw [hns]; rfl) | (rw [hns]; simp [chunks]))) (Slots.cons rfl (by first | exact .refl _ | exact .nilOwn _ _ | exact .nilSl _ | exact .ownSl _ _ _  | exact SV.le.ownEq (by first | rfl | (rw [hns]; rfl) | (rw [hns]; simp [chunks])) | exact SV.le.of_eq (by first | rfl | (rw [hns]; rfl) | (rw [hns]; simp [chunks]))) (Slots.cons rfl (by first | exact .refl _ | exact .nilOwn _ _ | exact .nilSl _ | exact .ownSl _ _ _  | exact SV.le.ownEq (by first | rfl | (rw [hns]; rfl) | (rw [hns]; simp [chunks])) | exact SV.le.of_eq (by first | rfl | (rw [hns]; rfl) | (rw [hns]; simp [chunks]))) (Slots.cons rfl (by first | exact .refl _ | exact .nilOwn _ _ | exact .nilSl _ | exact .ownSl _ _ _  | exact SV.le.ownEq (by first | rfl | (rw [hns]; rfl) | (rw [hns]; simp [chunks])) | exact SV.le.of_eq (by first | rfl | (rw [hns]; rfl) | (rw [hns]; simp [chunks]))) Slots.nil)))))))), (by first | exact List.Sublist.refl _ | exact .cons_cons _ (.cons _ (.refl _)) | exact List.nil_sublist _ | exact .cons _ (.refl _) | exact .cons _ (.cons _ (.refl _)) | exact .cons _ (.cons _ (.cons _ (.refl _))) | exact .cons _ (.cons _ (.cons _ (.cons _ (.refl _)))) | exact .cons_cons _ (List.nil_sublist _))⟩ ⟨0, m, rfl, rfl, Nat.zero_le _, (by simpa using hnd), (by simpa using hm)⟩ ?_
                  rintro nn0 _ ⟨j, m2, rfl, rfl, hj, hn2, hm2⟩
                  refine awp_seq ?_
                  refine awp_region ?_
                  refine r_cmp rfl rfl rfl rfl ?_
                  refine awl_nil ?_
                  refine x_then ?_
                  refine awp_seq ?_
                  refine awp_cond rfl (fun hc4 => ?_) (fun hc4 => ?_)
                  ·
                    have hlts : j < (namesC x).length := by have := of_decide_eq_true hc4; rw [List.length_map] at this; omega
                    obtain ⟨s, hs⟩ := get_lt hlts
                    refine awp_skip ?_
                    refine x_then ?_
                    refine awp_seq ?_
                    refine awp_block ?_
                    refine awp_seq ?_
                    refine awp_region ?_
                    refine r_index rfl rfl rfl TF.sl57 TF.sz9 (by omega) (get_map hs) rfl ?_
                    first | (refine r_load1b 0 rfl rfl rfl TF.agg9 rfl ?_) | (refine r_load1 rfl TF.agg9 rfl ?_)
                    refine r_assign rfl rfl ?_
                    refine awl_nil ?_
                    refine x_then ?_
                    refine awp_seq ?_
                    refine awp_seq ?_
                    refine awp_region ?_
                    refine r_move rfl rfl ?_
                    refine r_move rfl rfl ?_
                    refine r_lookup 0 (keyEnc_string TF.un9) (ev := boolA) false rfl rfl rfl TF.map70 TF.zav4 rfl ?_
                    refine awl_nil ?_
                    refine x_then ?_
                    refine awp_cond rfl (fun hc5 => ?_) (fun hc5 => ?_)
                    ·
                      refine awp_seq ?_
                      refine awp_region ?_
                      refine r_assign rfl rfl ?_
                      refine awl_nil ?_
                      refine x_then ?_
                      refine awp_ret ?_
                      refine x_thenR ?_
                      refine x_blockR ?_
                      refine x_thenR ?_
                      refine x_thenR ?_
                      refine x_blockR ?_
                      refine x_blockR ?_
                      refine x_thenR ?_
                      refine x_thenR ?_
                      refine x_blockR ?_
                      refine x_thenR ?_
                      exact ⟨(.inl rfl), _, [], (.one (by first | exact .mk rfl rfl | exact .nil rfl)), ⟨rfl, by first | (rw [right_bad hltx hbad]; rfl) | (rw [right_dup hx hs ((hm2 s).1 hc5)]; rfl) | (rw [right_good (fun i hi => hall i (by omega)) hnd]; rfl)⟩, (List.nil_sublist _), (by simp)⟩
                    ·
                      refine awp_skip ?_
                      refine x_then ?_
                      refine awp_region ?_
                      refine r_move rfl rfl ?_
                      refine r_move rfl rfl ?_
                      refine r_mapUpdate 0 (keyEnc_string TF.un9) (ev := boolA) true rfl rfl rfl rfl rfl TF.map70 ?_
                      refine awl_nil ?_
                      refine x_block ?_
                      refine x_then ?_
                      refine awp_region ?_
                      refine r_ari _ rfl rfl rfl (wrap_id (by first | omega | (simp; omega))) rfl ?_
                      refine r_move rfl rfl ?_
                      refine awl_nil ?_
                      refine x_then ?_
                      refine ⟨(namesC x).length - (j + 1), ⟨87, [(0, .a (fcsA d)), (3, .a (.v (.map (some b9)))), (10, .a (fcsA d)), (11, .a (.v (.int .i64 ((d.map FC.cs).length)))), (12, .a (.v (.int .i64 ((k : Int))))), (74, .a (strsA (namesC x))), (75, .a (.v (.int .i64 (((namesC x).map (fun s : ByteArray => [AV.v (.string s)])).length)))), (76, .a (.v (.int .i64 (((j + 1) : Int)))))], [⟨b9, true, .map (encM Value.string boolA ((mset m2 s true)))⟩]⟩, ⟨rfl, (Slots.cons rfl (by first | exact .refl _ | exact .nilOwn _ _ | exact .nilSl _ | exact .ownSl _ _ _  | exact SV.le.of_eq (by simp)) (Slots.cons rfl (by first | exact .refl _ | exact .nilOwn _ _ | exact .nilSl _ | exact .ownSl _ _ _  | exact SV.le.of_eq (by simp)) (Slots.cons rfl (by first | exact .refl _ | exact .nilOwn _ _ | exact .nilSl _ | exact .ownSl _ _ _  | exact SV.le.of_eq (by simp)) (Slots.cons rfl (by first | exact .refl _ | exact .nilOwn _ _ | exact .nilSl _ | exact .ownSl _ _ _  | exact SV.le.of_eq (by simp)) (Slots.cons rfl (by first | exact .refl _ | exact .nilOwn _ _ | exact .nilSl _ | exact .ownSl _ _ _  | exact SV.le.of_eq (by simp)) (Slots.cons rfl (by first | exact .refl _ | exact .nilOwn _ _ | exact .nilSl _ | exact .ownSl _ _ _  | exact SV.le.of_eq (by simp)) (Slots.cons rfl (by first | exact .refl _ | exact .nilOwn _ _ | exact .nilSl _ | exact .ownSl _ _ _  | exact SV.le.of_eq (by simp)) (Slots.cons rfl (by first | exact .refl _ | exact .nilOwn _ _ | exact .nilSl _ | exact .ownSl _ _ _  | exact SV.le.of_eq (by simp)) Slots.nil)))))))), (by first | exact List.Sublist.refl _ | exact .cons_cons _ (.cons _ (.refl _)) | exact List.nil_sublist _ | exact .cons _ (.refl _) | exact .cons _ (.cons _ (.refl _)) | exact .cons _ (.cons _ (.cons _ (.refl _))) | exact .cons _ (.cons _ (.cons _ (.cons _ (.refl _)))) | exact .cons_cons _ (List.nil_sublist _))⟩, (by omega), ⟨j + 1, (mset m2 s true), rfl, rfl, (by omega), (by rw [takeS hs, ← List.append_assoc]; exact nodup_snoc hn2 (fun h => by rw [(hm2 s).2 h] at hc5; cases hc5)), (by rw [takeS hs, ← List.append_assoc]; exact hasS_set hm2)⟩⟩
                  ·
                    have hge : (namesC x).length ≤ j := by have := of_decide_eq_false hc4; rw [List.length_map] at this; omega
                    rw [List.take_of_length_le hge, ← names_take hx] at hn2 hm2
                    refine awp_exit ?_
                    refine x_thenE ?_
                    refine x_thenE ?_
                    refine x_blockE ?_
                    refine x_block ?_
                    refine x_then ?_
                    refine awp_region ?_
                    refine r_ari _ rfl rfl rfl (wrap_id (by first | omega | (simp; omega))) rfl ?_
                    refine r_move rfl rfl ?_
                    refine awl_nil ?_
                    refine x_then ?_
                    refine ⟨d.length - (k + 1), ⟨87, [(0, .a (fcsA d)), (3, .a (.v (.map (some b9)))), (10, .a (fcsA d)), (11, .a (.v (.int .i64 ((d.map FC.cs).length)))), (12, .a (.v (.int .i64 (((k + 1) : Int)))))], [⟨b9, true, .map (encM Value.string boolA (m2))⟩]⟩, ⟨rfl, (Slots.cons rfl (by first | exact .refl _ | exact .nilOwn _ _ | exact .nilSl _ | exact .ownSl _ _ _  | exact SV.le.of_eq (by simp)) (Slots.cons rfl (by first | exact .refl _ | exact .nilOwn _ _ | exact .nilSl _ | exact .ownSl _ _ _  | exact SV.le.of_eq (by simp)) (Slots.cons rfl (by first | exact .refl _ | exact .nilOwn _ _ | exact .nilSl _ | exact .ownSl _ _ _  | exact SV.le.of_eq (by simp)) (Slots.cons rfl (by first | exact .refl _ | exact .nilOwn _ _ | exact .nilSl _ | exact .ownSl _ _ _  | exact SV.le.of_eq (by simp)) (Slots.cons rfl (by first | exact .refl _ | exact .nilOwn _ _ | exact .nilSl _ | exact .ownSl _ _ _  | exact SV.le.of_eq (by simp)) Slots.nil))))), (by first | exact List.Sublist.refl _ | exact .cons_cons _ (.cons _ (.refl _)) | exact List.nil_sublist _ | exact .cons _ (.refl _) | exact .cons _ (.cons _ (.refl _)) | exact .cons _ (.cons _ (.cons _ (.refl _))) | exact .cons _ (.cons _ (.cons _ (.cons _ (.refl _)))) | exact .cons_cons _ (List.nil_sublist _))⟩, (by omega), ⟨k + 1, m2, rfl, rfl, (by omega), (fun i hi => by rcases Nat.lt_succ_iff_lt_or_eq.1 hi with h | rfl; exact hall i h; exact hgood), hn2, hm2⟩⟩
                ·
                  have hns : namesC x = [x.name] := by simp [namesC, (by simpa using hc3 : ¬ x.kind = 4)]
                  have hnsl : (namesC x).length ≤ 2 := by rw [hns]; simp
                  refine awp_skip ?_
                  refine x_then ?_
                  refine awp_seq ?_
                  refine awp_region ?_
                  refine r_move rfl rfl ?_
                  first | (refine r_lenS rfl rfl TF.sl57 rfl ?_) | (refine r_lenNil rfl TF.sl57 rfl ?_) | (refine r_lenV rfl TF.sl57 rfl ?_)
                  refine r_move rfl rfl ?_
                  refine awl_nil ?_
                  refine x_then ?_
                  refine awp_block ?_
                  refine awp_loop (fun nn0 S => ∃ j : Nat, ∃ m2 : List (ByteArray × Bool), S = ⟨87, [(0, .a (fcsA d)), (3, .a (.v (.map (some b9)))), (10, .a (fcsA d)), (11, .a (.v (.int .i64 ((d.map FC.cs).length)))), (12, .a (.v (.int .i64 ((k : Int))))), (74, .a (strsA (namesC x))), (75, .a (.v (.int .i64 (((namesC x).map (fun s : ByteArray => [AV.v (.string s)])).length)))), (76, .a (.v (.int .i64 ((j : Int)))))], [⟨b9, true, .map (encM Value.string boolA m2)⟩]⟩ ∧ nn0 = (namesC x).length - j ∧ (j ≤ (namesC x).length) ∧ (((d.take k).flatMap namesC ++ (namesC x).take j).Nodup) ∧ (HasS m2 ((d.take k).flatMap namesC ++ (namesC x).take j))) ((namesC x).length - (0)) ⟨87, [(0, .a (fcsA d)), (3, .a (.v (.map (some b9)))), (10, .a (fcsA d)), (11, .a (.v (.int .i64 ((d.map FC.cs).length)))), (12, .a (.v (.int .i64 ((k : Int))))), (74, .a (strsA (namesC x))), (75, .a (.v (.int .i64 (((namesC x).map (fun s : ByteArray => [AV.v (.string s)])).length)))), (76, .a (.v (.int .i64 (((0) : Int)))))], [⟨b9, true, .map (encM Value.string boolA (m))⟩]⟩ ⟨rfl, (Slots.cons rfl (by first | exact .refl _ | exact .nilOwn _ _ | exact .nilSl _ | exact .ownSl _ _ _  | exact SV.le.ownEq (by first | rfl | (rw [hns]; rfl) | (rw [hns]; simp [chunks])) | exact SV.le.of_eq (by first | rfl | (rw [hns]; rfl) | (rw [hns]; simp [chunks]))) (Slots.cons rfl (by first | exact .refl _ | exact .nilOwn _ _ | exact .nilSl _ | exact .ownSl _ _ _  | exact SV.le.ownEq (by first | rfl | (rw [hns]; rfl) | (rw [hns]; simp [chunks])) | exact SV.le.of_eq (by first | rfl | (rw [hns]; rfl) | (rw [hns]; simp [chunks]))) (Slots.cons rfl (by first | exact .refl _ | exact .nilOwn _ _ | exact .nilSl _ | exact .ownSl _ _ _  | exact SV.le.ownEq (by first | rfl | (rw [hns]; rfl) | (rw [hns]; simp [chunks])) | exact SV.le.of_eq (by first | rfl | (rw [hns]; rfl) | (rw [hns]; simp [chunks]))) (Slots.cons rfl (by first | exact .refl _ | exact .nilOwn _ _ | exact .nilSl _ | exact .ownSl _ _ _  | exact SV.le.ownEq (by first | rfl | (rw [hns]; rfl) | (rw [hns]; simp [chunks])) | exact SV.le.of_eq (by first | rfl | (rw [hns]; rfl) | (rw [hns]; simp [chunks]))) (Slots.cons rfl (by first | exact .refl _ | exact .nilOwn _ _ | exact .nilSl _ | exact .ownSl _ _ _  | exact SV.le.ownEq (by first | rfl | (rw [hns]; rfl) | (rw [hns]; simp [chunks])) | exact SV.le.of_eq (by first | rfl | (rw [hns]; rfl) | (rw [hns]; simp [chunks]))) (Slots.cons rfl (by first | exact .refl _ | exact .nilOwn _ _ | exact .nilSl _ | exact .ownSl _ _ _  | exact SV.le.ownEq (by first | rfl | (rw [hns]; rfl) | (rw [hns]; simp [chunks])) | exact SV.le.of_eq (by first | rfl | (rw [hns]; rfl) | (rw [hns]; simp [chunks]))) (Slots.cons rfl (by first | exact .refl _ | exact .nilOwn _ _ | exact .nilSl _ | exact .ownSl _ _ _  | exact SV.le.ownEq (by first | rfl | (rw [hns]; rfl) | (rw [hns]; simp [chunks])) | exact SV.le.of_eq (by first | rfl | (rw [hns]; rfl) | (rw [hns]; simp [chunks]))) (Slots.cons rfl (by first | exact .refl _ | exact .nilOwn _ _ | exact .nilSl _ | exact .ownSl _ _ _  | exact SV.le.ownEq (by first | rfl | (rw [hns]; rfl) | (rw [hns]; simp [chunks])) | exact SV.le.of_eq (by first | rfl | (rw [hns]; rfl) | (rw [hns]; simp [chunks]))) Slots.nil)))))))), (by first | exact List.Sublist.refl _ | exact .cons_cons _ (.cons _ (.refl _)) | exact List.nil_sublist _ | exact .cons _ (.refl _) | exact .cons _ (.cons _ (.refl _)) | exact .cons _ (.cons _ (.cons _ (.refl _))) | exact .cons _ (.cons _ (.cons _ (.cons _ (.refl _)))) | exact .cons_cons _ (List.nil_sublist _))⟩ ⟨0, m, rfl, rfl, Nat.zero_le _, (by simpa using hnd), (by simpa using hm)⟩ ?_
                  rintro nn0 _ ⟨j, m2, rfl, rfl, hj, hn2, hm2⟩
                  refine awp_seq ?_
                  refine awp_region ?_
                  refine r_cmp rfl rfl rfl rfl ?_
                  refine awl_nil ?_
                  refine x_then ?_
                  refine awp_seq ?_
                  refine awp_cond rfl (fun hc4 => ?_) (fun hc4 => ?_)
                  ·
                    have hlts : j < (namesC x).length := by have := of_decide_eq_true hc4; rw [List.length_map] at this; omega
                    obtain ⟨s, hs⟩ := get_lt hlts
                    refine awp_skip ?_
                    refine x_then ?_
                    refine awp_seq ?_
                    refine awp_block ?_
                    refine awp_seq ?_
                    refine awp_region ?_
                    refine r_index rfl rfl rfl TF.sl57 TF.sz9 (by omega) (get_map hs) rfl ?_
                    first | (refine r_load1b 0 rfl rfl rfl TF.agg9 rfl ?_) | (refine r_load1 rfl TF.agg9 rfl ?_)
                    refine r_assign rfl rfl ?_
                    refine awl_nil ?_
                    refine x_then ?_
                    refine awp_seq ?_
                    refine awp_seq ?_
                    refine awp_region ?_
                    refine r_move rfl rfl ?_
                    refine r_move rfl rfl ?_
                    refine r_lookup 0 (keyEnc_string TF.un9) (ev := boolA) false rfl rfl rfl TF.map70 TF.zav4 rfl ?_
                    refine awl_nil ?_
                    refine x_then ?_
                    refine awp_cond rfl (fun hc5 => ?_) (fun hc5 => ?_)
                    ·
                      refine awp_seq ?_
                      refine awp_region ?_
                      refine r_assign rfl rfl ?_
                      refine awl_nil ?_
                      refine x_then ?_
                      refine awp_ret ?_
                      refine x_thenR ?_
                      refine x_blockR ?_
                      refine x_thenR ?_
                      refine x_thenR ?_
                      refine x_blockR ?_
                      refine x_blockR ?_
                      refine x_thenR ?_
                      refine x_thenR ?_
                      refine x_blockR ?_
                      refine x_thenR ?_
                      exact ⟨(.inl rfl), _, [], (.one (by first | exact .mk rfl rfl | exact .nil rfl)), ⟨rfl, by first | (rw [right_bad hltx hbad]; rfl) | (rw [right_dup hx hs ((hm2 s).1 hc5)]; rfl) | (rw [right_good (fun i hi => hall i (by omega)) hnd]; rfl)⟩, (List.nil_sublist _), (by simp)⟩
                    ·
                      refine awp_skip ?_
                      refine x_then ?_
                      refine awp_region ?_
                      refine r_move rfl rfl ?_
                      refine r_move rfl rfl ?_
                      refine r_mapUpdate 0 (keyEnc_string TF.un9) (ev := boolA) true rfl rfl rfl rfl rfl TF.map70 ?_
                      refine awl_nil ?_
                      refine x_block ?_
                      refine x_then ?_
                      refine awp_region ?_
                      refine r_ari _ rfl rfl rfl (wrap_id (by first | omega | (simp; omega))) rfl ?_
                      refine r_move rfl rfl ?_
                      refine awl_nil ?_
                      refine x_then ?_
                      refine ⟨(namesC x).length - (j + 1), ⟨87, [(0, .a (fcsA d)), (3, .a (.v (.map (some b9)))), (10, .a (fcsA d)), (11, .a (.v (.int .i64 ((d.map FC.cs).length)))), (12, .a (.v (.int .i64 ((k : Int))))), (74, .a (strsA (namesC x))), (75, .a (.v (.int .i64 (((namesC x).map (fun s : ByteArray => [AV.v (.string s)])).length)))), (76, .a (.v (.int .i64 (((j + 1) : Int)))))], [⟨b9, true, .map (encM Value.string boolA ((mset m2 s true)))⟩]⟩, ⟨rfl, (Slots.cons rfl (by first | exact .refl _ | exact .nilOwn _ _ | exact .nilSl _ | exact .ownSl _ _ _  | exact SV.le.of_eq (by simp)) (Slots.cons rfl (by first | exact .refl _ | exact .nilOwn _ _ | exact .nilSl _ | exact .ownSl _ _ _  | exact SV.le.of_eq (by simp)) (Slots.cons rfl (by first | exact .refl _ | exact .nilOwn _ _ | exact .nilSl _ | exact .ownSl _ _ _  | exact SV.le.of_eq (by simp)) (Slots.cons rfl (by first | exact .refl _ | exact .nilOwn _ _ | exact .nilSl _ | exact .ownSl _ _ _  | exact SV.le.of_eq (by simp)) (Slots.cons rfl (by first | exact .refl _ | exact .nilOwn _ _ | exact .nilSl _ | exact .ownSl _ _ _  | exact SV.le.of_eq (by simp)) (Slots.cons rfl (by first | exact .refl _ | exact .nilOwn _ _ | exact .nilSl _ | exact .ownSl _ _ _  | exact SV.le.of_eq (by simp)) (Slots.cons rfl (by first | exact .refl _ | exact .nilOwn _ _ | exact .nilSl _ | exact .ownSl _ _ _  | exact SV.le.of_eq (by simp)) (Slots.cons rfl (by first | exact .refl _ | exact .nilOwn _ _ | exact .nilSl _ | exact .ownSl _ _ _  | exact SV.le.of_eq (by simp)) Slots.nil)))))))), (by first | exact List.Sublist.refl _ | exact .cons_cons _ (.cons _ (.refl _)) | exact List.nil_sublist _ | exact .cons _ (.refl _) | exact .cons _ (.cons _ (.refl _)) | exact .cons _ (.cons _ (.cons _ (.refl _))) | exact .cons _ (.cons _ (.cons _ (.cons _ (.refl _)))) | exact .cons_cons _ (List.nil_sublist _))⟩, (by omega), ⟨j + 1, (mset m2 s true), rfl, rfl, (by omega), (by rw [takeS hs, ← List.append_assoc]; exact nodup_snoc hn2 (fun h => by rw [(hm2 s).2 h] at hc5; cases hc5)), (by rw [takeS hs, ← List.append_assoc]; exact hasS_set hm2)⟩⟩
                  ·
                    have hge : (namesC x).length ≤ j := by have := of_decide_eq_false hc4; rw [List.length_map] at this; omega
                    rw [List.take_of_length_le hge, ← names_take hx] at hn2 hm2
                    refine awp_exit ?_
                    refine x_thenE ?_
                    refine x_thenE ?_
                    refine x_blockE ?_
                    refine x_block ?_
                    refine x_then ?_
                    refine awp_region ?_
                    refine r_ari _ rfl rfl rfl (wrap_id (by first | omega | (simp; omega))) rfl ?_
                    refine r_move rfl rfl ?_
                    refine awl_nil ?_
                    refine x_then ?_
                    refine ⟨d.length - (k + 1), ⟨87, [(0, .a (fcsA d)), (3, .a (.v (.map (some b9)))), (10, .a (fcsA d)), (11, .a (.v (.int .i64 ((d.map FC.cs).length)))), (12, .a (.v (.int .i64 (((k + 1) : Int)))))], [⟨b9, true, .map (encM Value.string boolA (m2))⟩]⟩, ⟨rfl, (Slots.cons rfl (by first | exact .refl _ | exact .nilOwn _ _ | exact .nilSl _ | exact .ownSl _ _ _  | exact SV.le.of_eq (by simp)) (Slots.cons rfl (by first | exact .refl _ | exact .nilOwn _ _ | exact .nilSl _ | exact .ownSl _ _ _  | exact SV.le.of_eq (by simp)) (Slots.cons rfl (by first | exact .refl _ | exact .nilOwn _ _ | exact .nilSl _ | exact .ownSl _ _ _  | exact SV.le.of_eq (by simp)) (Slots.cons rfl (by first | exact .refl _ | exact .nilOwn _ _ | exact .nilSl _ | exact .ownSl _ _ _  | exact SV.le.of_eq (by simp)) (Slots.cons rfl (by first | exact .refl _ | exact .nilOwn _ _ | exact .nilSl _ | exact .ownSl _ _ _  | exact SV.le.of_eq (by simp)) Slots.nil))))), (by first | exact List.Sublist.refl _ | exact .cons_cons _ (.cons _ (.refl _)) | exact List.nil_sublist _ | exact .cons _ (.refl _) | exact .cons _ (.cons _ (.refl _)) | exact .cons _ (.cons _ (.cons _ (.refl _))) | exact .cons _ (.cons _ (.cons _ (.cons _ (.refl _)))) | exact .cons_cons _ (List.nil_sublist _))⟩, (by omega), ⟨k + 1, m2, rfl, rfl, (by omega), (fun i hi => by rcases Nat.lt_succ_iff_lt_or_eq.1 hi with h | rfl; exact hall i h; exact hgood), hn2, hm2⟩⟩
            ·
              have hgood : okC d k = true := by simp only [okC, hx, hg21, hy, hbr, decide_eq_true hk0, pairF, hg40, hg50]; rfl
              refine awp_drawS [26, 27, 28, 29, 30, 31, 32, 33, 34, 35, 36, 37, 38, 39, 40, 41, 42, 43, 44, 45, 46, 47, 48, 49, 50, 51, 52, 53, 54, 55, 56, 57, 58] [_, _, _, _, _, _, _, _, _, _, _, _, _, _, _, _, _, _, _, _, _, _, _, _, _, _, _, _, _, _, _, _, _] [] [] TF.mixed rfl rfl rfl ⟨⟨⟨⟨⟨⟨⟨⟨⟨⟨⟨⟨⟨⟨⟨⟨⟨⟨⟨⟨⟨⟨⟨⟨⟨⟨⟨⟨⟨⟨⟨⟨⟨trivial
                , ⟨_, rfl, fun sl hd hr ho => by
                    refine r_move (hr 4 _ rfl rfl rfl) rfl ?_
                    exact awl_nil ⟨rfl, post_put⟩⟩⟩
                , ⟨_, rfl, fun sl hd hr ho => by
                    refine r_cmp (hd 0 _ rfl rfl rfl) rfl rfl rfl ?_
                    exact awl_nil ⟨rfl, post_put⟩⟩⟩
                , ⟨_, rfl, fun sl hd hr ho => by
                    refine r_move (hd 1 _ rfl rfl rfl) rfl ?_
                    exact awl_nil ⟨rfl, post_put⟩⟩⟩
                , ⟨_, rfl, fun sl hd hr ho => by
                    refine g_run rfl (hd 2 _ rfl rfl rfl) hg28 ?_
                    refine r_move (hr 0 _ rfl rfl rfl) rfl ?_
                    exact awl_nil ⟨rfl, post_put⟩⟩⟩
                , ⟨_, rfl, fun sl hd hr ho => by
                    refine g_run rfl (hd 2 _ rfl rfl rfl) hg28 ?_
                    refine r_move (hr 4 _ rfl rfl rfl) rfl ?_
                    exact awl_nil ⟨rfl, post_put⟩⟩⟩
                , ⟨_, rfl, fun sl hd hr ho => by
                    refine g_run rfl (hd 2 _ rfl rfl rfl) hg28 ?_
                    refine r_ari _ (hd 4 _ rfl rfl rfl) rfl rfl (wrap_id (by first | omega | (simp; omega))) rfl ?_
                    exact awl_nil ⟨rfl, post_put⟩⟩⟩
                , ⟨_, rfl, fun sl hd hr ho => by
                    refine g_run rfl (hd 2 _ rfl rfl rfl) hg28 ?_
                    refine r_index (hd 3 _ rfl rfl rfl) rfl (hd 5 _ rfl rfl rfl) TF.sl28 TF.sz50 (by omega) (by rw [show ((k : Int) - 1).toNat = k - 1 by omega]; exact get_map hy) rfl ?_
                    exact awl_nil ⟨rfl, post_put⟩⟩⟩
                , ⟨_, rfl, fun sl hd hr ho => by
                    refine g_run rfl (hd 2 _ rfl rfl rfl) hg28 ?_
                    first | (refine r_fieldb (hd 6 _ rfl rfl rfl) TF.f50_0 TF.sz3 rfl ?_) | (refine r_fieldcp (hd 6 _ rfl rfl rfl) TF.f50_0 TF.sz3 rfl ?_)
                    exact awl_nil ⟨rfl, post_put⟩⟩⟩
                , ⟨_, rfl, fun sl hd hr ho => by
                    refine g_run rfl (hd 2 _ rfl rfl rfl) hg28 ?_
                    first | (refine r_load1b 0 (hd 7 _ rfl rfl rfl) rfl rfl TF.agg3 rfl ?_) | (refine r_load1 (hd 7 _ rfl rfl rfl) TF.agg3 rfl ?_) | (refine r_load1b 1 (hd 7 _ rfl rfl rfl) rfl rfl TF.agg3 rfl ?_)
                    exact awl_nil ⟨rfl, post_put⟩⟩⟩
                , ⟨_, rfl, fun sl hd hr ho => by
                    refine g_run rfl (hd 2 _ rfl rfl rfl) hg28 ?_
                    refine r_call0 hq rfl rfl (.cons (.ev (hd 8 _ rfl rfl rfl) rfl) .nil) (rank_ok y.kind) rfl TF.en35 rfl (fun r hr => ?_)
                    obtain rfl := hr
                    exact awl_nil ⟨rfl, post_put⟩⟩⟩
                , ⟨_, rfl, fun sl hd hr ho => by
                    refine g_run rfl (hd 2 _ rfl rfl rfl) hg28 ?_
                    first | (refine r_fieldb (hr 5 _ rfl rfl rfl) TF.f50_0 TF.sz3 rfl ?_) | (refine r_fieldcp (hr 5 _ rfl rfl rfl) TF.f50_0 TF.sz3 rfl ?_)
                    exact awl_nil ⟨rfl, post_put⟩⟩⟩
                , ⟨_, rfl, fun sl hd hr ho => by
                    refine g_run rfl (hd 2 _ rfl rfl rfl) hg28 ?_
                    first | (refine r_load1b 0 (hd 10 _ rfl rfl rfl) rfl rfl TF.agg3 rfl ?_) | (refine r_load1 (hd 10 _ rfl rfl rfl) TF.agg3 rfl ?_) | (refine r_load1b 1 (hd 10 _ rfl rfl rfl) rfl rfl TF.agg3 rfl ?_)
                    exact awl_nil ⟨rfl, post_put⟩⟩⟩
                , ⟨_, rfl, fun sl hd hr ho => by
                    refine g_run rfl (hd 2 _ rfl rfl rfl) hg28 ?_
                    refine r_call0 hq rfl rfl (.cons (.ev (hd 11 _ rfl rfl rfl) rfl) .nil) (rank_ok x.kind) rfl TF.en35 rfl (fun r hr => ?_)
                    obtain rfl := hr
                    exact awl_nil ⟨rfl, post_put⟩⟩⟩
                , ⟨_, rfl, fun sl hd hr ho => by
                    refine g_run rfl (hd 2 _ rfl rfl rfl) hg28 ?_
                    refine r_cmp (hd 9 _ rfl rfl rfl) (hd 12 _ rfl rfl rfl) rfl rfl ?_
                    exact awl_nil ⟨rfl, post_put⟩⟩⟩
                , ⟨_, rfl, fun sl hd hr ho => by
                    refine g_run rfl (hd 2 _ rfl rfl rfl) hg28 ?_
                    refine r_move (hd 13 _ rfl rfl rfl) rfl ?_
                    exact awl_nil ⟨rfl, post_put⟩⟩⟩
                , ⟨_, rfl, fun sl hd hr ho => by
                    refine g_run rfl (hd 14 _ rfl rfl rfl) hg40 ?_
                    refine r_move (hr 0 _ rfl rfl rfl) rfl ?_
                    exact awl_nil ⟨rfl, post_put⟩⟩⟩
                , ⟨_, rfl, fun sl hd hr ho => by
                    refine g_run rfl (hd 14 _ rfl rfl rfl) hg40 ?_
                    refine r_move (hr 4 _ rfl rfl rfl) rfl ?_
                    exact awl_nil ⟨rfl, post_put⟩⟩⟩
                , ⟨_, rfl, fun sl hd hr ho => by
                    refine g_run rfl (hd 14 _ rfl rfl rfl) hg40 ?_
                    refine r_ari _ (hd 16 _ rfl rfl rfl) rfl rfl (wrap_id (by first | omega | (simp; omega))) rfl ?_
                    exact awl_nil ⟨rfl, post_put⟩⟩⟩
                , ⟨_, rfl, fun sl hd hr ho => by
                    refine g_run rfl (hd 14 _ rfl rfl rfl) hg40 ?_
                    refine r_index (hd 15 _ rfl rfl rfl) rfl (hd 17 _ rfl rfl rfl) TF.sl28 TF.sz50 (by omega) (by rw [show ((k : Int) - 1).toNat = k - 1 by omega]; exact get_map hy) rfl ?_
                    exact awl_nil ⟨rfl, post_put⟩⟩⟩
                , ⟨_, rfl, fun sl hd hr ho => by
                    refine g_run rfl (hd 14 _ rfl rfl rfl) hg40 ?_
                    first | (refine r_fieldb (hd 18 _ rfl rfl rfl) TF.f50_0 TF.sz3 rfl ?_) | (refine r_fieldcp (hd 18 _ rfl rfl rfl) TF.f50_0 TF.sz3 rfl ?_)
                    exact awl_nil ⟨rfl, post_put⟩⟩⟩
                , ⟨_, rfl, fun sl hd hr ho => by
                    refine g_run rfl (hd 14 _ rfl rfl rfl) hg40 ?_
                    first | (refine r_load1b 0 (hd 19 _ rfl rfl rfl) rfl rfl TF.agg3 rfl ?_) | (refine r_load1 (hd 19 _ rfl rfl rfl) TF.agg3 rfl ?_) | (refine r_load1b 1 (hd 19 _ rfl rfl rfl) rfl rfl TF.agg3 rfl ?_)
                    exact awl_nil ⟨rfl, post_put⟩⟩⟩
                , ⟨_, rfl, fun sl hd hr ho => by
                    refine g_run rfl (hd 14 _ rfl rfl rfl) hg40 ?_
                    first | (refine r_fieldb (hr 5 _ rfl rfl rfl) TF.f50_0 TF.sz3 rfl ?_) | (refine r_fieldcp (hr 5 _ rfl rfl rfl) TF.f50_0 TF.sz3 rfl ?_)
                    exact awl_nil ⟨rfl, post_put⟩⟩⟩
                , ⟨_, rfl, fun sl hd hr ho => by
                    refine g_run rfl (hd 14 _ rfl rfl rfl) hg40 ?_
                    first | (refine r_load1b 0 (hd 21 _ rfl rfl rfl) rfl rfl TF.agg3 rfl ?_) | (refine r_load1 (hd 21 _ rfl rfl rfl) TF.agg3 rfl ?_) | (refine r_load1b 1 (hd 21 _ rfl rfl rfl) rfl rfl TF.agg3 rfl ?_)
                    exact awl_nil ⟨rfl, post_put⟩⟩⟩
                , ⟨_, rfl, fun sl hd hr ho => by
                    refine g_run rfl (hd 14 _ rfl rfl rfl) hg40 ?_
                    refine r_cmp (hd 20 _ rfl rfl rfl) (hd 22 _ rfl rfl rfl) rfl rfl ?_
                    exact awl_nil ⟨rfl, post_put⟩⟩⟩
                , ⟨_, rfl, fun sl hd hr ho => by
                    refine g_run rfl (hd 14 _ rfl rfl rfl) hg40 ?_
                    refine r_move (hd 23 _ rfl rfl rfl) rfl ?_
                    exact awl_nil ⟨rfl, post_put⟩⟩⟩
                , ⟨_, rfl, fun sl hd hr ho => by
                    refine g_skip rfl (hd 24 _ rfl rfl rfl) hg50 rfl ?_
                    exact awl_nil ⟨rfl, post_put⟩⟩⟩
                , ⟨_, rfl, fun sl hd hr ho => by
                    refine g_skip rfl (hd 24 _ rfl rfl rfl) hg50 rfl ?_
                    exact awl_nil ⟨rfl, post_put⟩⟩⟩
                , ⟨_, rfl, fun sl hd hr ho => by
                    refine g_skip rfl (hd 24 _ rfl rfl rfl) hg50 rfl ?_
                    exact awl_nil ⟨rfl, post_put⟩⟩⟩
                , ⟨_, rfl, fun sl hd hr ho => by
                    refine g_skip rfl (hd 24 _ rfl rfl rfl) hg50 rfl ?_
                    exact awl_nil ⟨rfl, post_put⟩⟩⟩
                , ⟨_, rfl, fun sl hd hr ho => by
                    refine g_skip rfl (hd 24 _ rfl rfl rfl) hg50 rfl ?_
                    exact awl_nil ⟨rfl, post_put⟩⟩⟩
                , ⟨_, rfl, fun sl hd hr ho => by
                    refine g_skip rfl (hd 24 _ rfl rfl rfl) hg50 rfl ?_
                    exact awl_nil ⟨rfl, post_put⟩⟩⟩
                , ⟨_, rfl, fun sl hd hr ho => by
                    refine g_skip rfl (hd 24 _ rfl rfl rfl) hg50 rfl ?_
                    exact awl_nil ⟨rfl, post_put⟩⟩⟩
                , ⟨_, rfl, fun sl hd hr ho => by
                    refine g_skip rfl (hd 24 _ rfl rfl rfl) hg50 rfl ?_
                    exact awl_nil ⟨rfl, post_put⟩⟩⟩
                (by rfl) ?_
              refine g_skip rfl rfl hg50 rfl ?_
              refine g_run rfl rfl hg40 ?_
              refine r_pickF rfl hg50 rfl rfl ?_
              refine g_run rfl rfl hg28 ?_
              refine r_pickF rfl hg40 rfl rfl ?_
              refine r_pickT rfl hg28 rfl rfl ?_
              refine awl_nil ?_
              refine x_then ?_
              refine awp_condF rfl ?_
              refine awp_skip ?_
              refine x_then ?_
              refine awp_seq ?_
              refine awp_region ?_
              first | (refine r_fieldb rfl TF.f50_1 TF.sz9 rfl ?_) | (refine r_fieldcp rfl TF.f50_1 TF.sz9 rfl ?_)
              first | (refine r_load1b 0 rfl rfl rfl TF.agg9 rfl ?_) | (refine r_load1 rfl TF.agg9 rfl ?_) | (refine r_load1b 1 rfl rfl rfl TF.agg9 rfl ?_)
              refine r_lit 65 (parts := [(0, .tmp 64)]) rfl TF.sl57 TF.sz9 TF.zraw9 rfl rfl rfl rfl rfl rfl rfl ?_
              refine r_assign rfl rfl ?_
              refine awl_nil ?_
              refine x_then ?_
              refine awp_seq ?_
              refine awp_seq ?_
              refine awp_region ?_
              first | (refine r_fieldb rfl TF.f50_0 TF.sz3 rfl ?_) | (refine r_fieldcp rfl TF.f50_0 TF.sz3 rfl ?_)
              first | (refine r_load1b 0 rfl rfl rfl TF.agg3 rfl ?_) | (refine r_load1 rfl TF.agg3 rfl ?_) | (refine r_load1b 1 rfl rfl rfl TF.agg3 rfl ?_)
              refine r_cmp rfl rfl rfl rfl ?_
              refine awl_nil ?_
              refine x_then ?_
              refine awp_cond rfl (fun hc3 => ?_) (fun hc3 => ?_)
              ·
                have hns : namesC x = [x.name, x.to] := by simp [namesC, (eq_of_beq hc3 : x.kind = 4)]
                have hnsl : (namesC x).length ≤ 2 := by rw [hns]; simp
                refine awp_region ?_
                refine r_move rfl rfl ?_
                first | (refine r_fieldb rfl TF.f50_2 TF.sz9 rfl ?_) | (refine r_fieldcp rfl TF.f50_2 TF.sz9 rfl ?_)
                first | (refine r_load1b 0 rfl rfl rfl TF.agg9 rfl ?_) | (refine r_load1 rfl TF.agg9 rfl ?_) | (refine r_load1b 1 rfl rfl rfl TF.agg9 rfl ?_)
                refine r_lit 72 (parts := [(0, .tmp 71)]) rfl TF.sl57 TF.sz9 TF.zraw9 rfl rfl rfl rfl rfl rfl rfl ?_
                refine r_append 65 rfl (by first | exact .own _ | exact .nil) rfl (by first | exact .sl _ | exact .own _ _ | exact .nil) TF.sl57 TF.sz9 (by decide) TF.by9 TF.zlen9 (by simp [chunks] <;> omega) (by simp [chunks] <;> omega) rfl ?_
                refine r_assign rfl rfl ?_
                refine awl_nil ?_
                refine x_then ?_
                refine awp_seq ?_
                refine awp_region ?_
                refine r_move rfl rfl ?_
                first | (refine r_lenS rfl rfl TF.sl57 rfl ?_) | (refine r_lenNil rfl TF.sl57 rfl ?_) | (refine r_lenV rfl TF.sl57 rfl ?_)
                refine r_move rfl rfl ?_
                refine awl_nil ?_
                refine x_then ?_
                refine awp_block ?_
                refine awp_loop (fun nn0 S => ∃ j : Nat, ∃ m2 : List (ByteArray × Bool), S = ⟨87, [(0, .a (fcsA d)), (3, .a (.v (.map (some b9)))), (10, .a (fcsA d)), (11, .a (.v (.int .i64 ((d.map FC.cs).length)))), (12, .a (.v (.int .i64 ((k : Int))))), (74, .a (strsA (namesC x))), (75, .a (.v (.int .i64 (((namesC x).map (fun s : ByteArray => [AV.v (.string s)])).length)))), (76, .a (.v (.int .i64 ((j : Int)))))], [⟨b9, true, .map (encM Value.string boolA m2)⟩]⟩ ∧ nn0 = (namesC x).length - j ∧ (j ≤ (namesC x).length) ∧ (((d.take k).flatMap namesC ++ (namesC x).take j).Nodup) ∧ (HasS m2 ((d.take k).flatMap namesC ++ (namesC x).take j))) ((namesC x).length - (0)) ⟨87, [(0, .a (fcsA d)), (3, .a (.v (.map (some b9)))), (10, .a (fcsA d)), (11, .a (.v (.int .i64 ((d.map FC.cs).length)))), (12, .a (.v (.int .i64 ((k : Int))))), (74, .a (strsA (namesC x))), (75, .a (.v (.int .i64 (((namesC x).map (fun s : ByteArray => [AV.v (.string s)])).length)))), (76, .a (.v (.int .i64 (((0) : Int)))))], [⟨b9, true, .map (encM Value.string boolA (m))⟩]⟩ ⟨rfl, (Slots.cons rfl (by first | exact .refl _ | exact .nilOwn _ _ | exact .nilSl _ | exact .ownSl _ _ _  | exact SV.le.ownEq (by first | rfl | (rw [hns]; rfl) | (rw [hns]; simp [chunks])) | exact SV.le.of_eq (by first | rfl | (rw [hns]; rfl) | (rw [hns]; simp [chunks]))) (Slots.cons rfl (by first | exact .refl _ | exact .nilOwn _ _ | exact .nilSl _ | exact .ownSl _ _ _  | exact SV.le.ownEq (by first | rfl | (rw [hns]; rfl) | (rw [hns]; simp [chunks])) | exact SV.le.of_eq (by first | rfl | (rw [hns]; rfl) | (rw [hns]; simp [chunks]))) (Slots.cons rfl (by first | exact .refl _ | exact .nilOwn _ _ | exact .nilSl _ | exact .ownSl _ _ _  | exact SV.le.ownEq (by first | rfl | (rw [hns]; rfl) | (rw [hns]; simp [chunks])) | exact SV.le.of_eq (by first | rfl | (rw [hns]; rfl) | (rw [hns]; simp [chunks]))) (Slots.cons rfl (by first | exact .refl _ | exact .nilOwn _ _ | exact .nilSl _ | exact .ownSl _ _ _  | exact SV.le.ownEq (by first | rfl | (rw [hns]; rfl) | (rw [hns]; simp [chunks])) | exact SV.le.of_eq (by first | rfl | (rw [hns]; rfl) | (rw [hns]; simp [chunks]))) (Slots.cons rfl (by first | exact .refl _ | exact .nilOwn _ _ | exact .nilSl _ | exact .ownSl _ _ _  | exact SV.le.ownEq (by first | rfl | (rw [hns]; rfl) | (rw [hns]; simp [chunks])) | exact SV.le.of_eq (by first | rfl | (rw [hns]; rfl) | (rw [hns]; simp [chunks]))) (Slots.cons rfl (by first | exact .refl _ | exact .nilOwn _ _ | exact .nilSl _ | exact .ownSl _ _ _  | exact SV.le.ownEq (by first | rfl | (rw [hns]; rfl) | (rw [hns]; simp [chunks])) | exact SV.le.of_eq (by first | rfl | (rw [hns]; rfl) | (rw [hns]; simp [chunks]))) (Slots.cons rfl (by first | exact .refl _ | exact .nilOwn _ _ | exact .nilSl _ | exact .ownSl _ _ _  | exact SV.le.ownEq (by first | rfl | (rw [hns]; rfl) | (rw [hns]; simp [chunks])) | exact SV.le.of_eq (by first | rfl | (rw [hns]; rfl) | (rw [hns]; simp [chunks]))) (Slots.cons rfl (by first | exact .refl _ | exact .nilOwn _ _ | exact .nilSl _ | exact .ownSl _ _ _  | exact SV.le.ownEq (by first | rfl | (rw [hns]; rfl) | (rw [hns]; simp [chunks])) | exact SV.le.of_eq (by first | rfl | (rw [hns]; rfl) | (rw [hns]; simp [chunks]))) Slots.nil)))))))), (by first | exact List.Sublist.refl _ | exact .cons_cons _ (.cons _ (.refl _)) | exact List.nil_sublist _ | exact .cons _ (.refl _) | exact .cons _ (.cons _ (.refl _)) | exact .cons _ (.cons _ (.cons _ (.refl _))) | exact .cons _ (.cons _ (.cons _ (.cons _ (.refl _)))) | exact .cons_cons _ (List.nil_sublist _))⟩ ⟨0, m, rfl, rfl, Nat.zero_le _, (by simpa using hnd), (by simpa using hm)⟩ ?_
                rintro nn0 _ ⟨j, m2, rfl, rfl, hj, hn2, hm2⟩
                refine awp_seq ?_
                refine awp_region ?_
                refine r_cmp rfl rfl rfl rfl ?_
                refine awl_nil ?_
                refine x_then ?_
                refine awp_seq ?_
                refine awp_cond rfl (fun hc4 => ?_) (fun hc4 => ?_)
                ·
                  have hlts : j < (namesC x).length := by have := of_decide_eq_true hc4; rw [List.length_map] at this; omega
                  obtain ⟨s, hs⟩ := get_lt hlts
                  refine awp_skip ?_
                  refine x_then ?_
                  refine awp_seq ?_
                  refine awp_block ?_
                  refine awp_seq ?_
                  refine awp_region ?_
                  refine r_index rfl rfl rfl TF.sl57 TF.sz9 (by omega) (get_map hs) rfl ?_
                  first | (refine r_load1b 0 rfl rfl rfl TF.agg9 rfl ?_) | (refine r_load1 rfl TF.agg9 rfl ?_)
                  refine r_assign rfl rfl ?_
                  refine awl_nil ?_
                  refine x_then ?_
                  refine awp_seq ?_
                  refine awp_seq ?_
                  refine awp_region ?_
                  refine r_move rfl rfl ?_
                  refine r_move rfl rfl ?_
                  refine r_lookup 0 (keyEnc_string TF.un9) (ev := boolA) false rfl rfl rfl TF.map70 TF.zav4 rfl ?_
                  refine awl_nil ?_
                  refine x_then ?_
                  refine awp_cond rfl (fun hc5 => ?_) (fun hc5 => ?_)
                  ·
                    refine awp_seq ?_
                    refine awp_region ?_
                    refine r_assign rfl rfl ?_
                    refine awl_nil ?_
                    refine x_then ?_
                    refine awp_ret ?_
                    refine x_thenR ?_
                    refine x_blockR ?_
                    refine x_thenR ?_
                    refine x_thenR ?_
                    refine x_blockR ?_
                    refine x_blockR ?_
                    refine x_thenR ?_
                    refine x_thenR ?_
                    refine x_blockR ?_
                    refine x_thenR ?_
                    exact ⟨(.inl rfl), _, [], (.one (by first | exact .mk rfl rfl | exact .nil rfl)), ⟨rfl, by first | (rw [right_bad hltx hbad]; rfl) | (rw [right_dup hx hs ((hm2 s).1 hc5)]; rfl) | (rw [right_good (fun i hi => hall i (by omega)) hnd]; rfl)⟩, (List.nil_sublist _), (by simp)⟩
                  ·
                    refine awp_skip ?_
                    refine x_then ?_
                    refine awp_region ?_
                    refine r_move rfl rfl ?_
                    refine r_move rfl rfl ?_
                    refine r_mapUpdate 0 (keyEnc_string TF.un9) (ev := boolA) true rfl rfl rfl rfl rfl TF.map70 ?_
                    refine awl_nil ?_
                    refine x_block ?_
                    refine x_then ?_
                    refine awp_region ?_
                    refine r_ari _ rfl rfl rfl (wrap_id (by first | omega | (simp; omega))) rfl ?_
                    refine r_move rfl rfl ?_
                    refine awl_nil ?_
                    refine x_then ?_
                    refine ⟨(namesC x).length - (j + 1), ⟨87, [(0, .a (fcsA d)), (3, .a (.v (.map (some b9)))), (10, .a (fcsA d)), (11, .a (.v (.int .i64 ((d.map FC.cs).length)))), (12, .a (.v (.int .i64 ((k : Int))))), (74, .a (strsA (namesC x))), (75, .a (.v (.int .i64 (((namesC x).map (fun s : ByteArray => [AV.v (.string s)])).length)))), (76, .a (.v (.int .i64 (((j + 1) : Int)))))], [⟨b9, true, .map (encM Value.string boolA ((mset m2 s true)))⟩]⟩, ⟨rfl, (Slots.cons rfl (by first | exact .refl _ | exact .nilOwn _ _ | exact .nilSl _ | exact .ownSl _ _ _  | exact SV.le.of_eq (by simp)) (Slots.cons rfl (by first | exact .refl _ | exact .nilOwn _ _ | exact .nilSl _ | exact .ownSl _ _ _  | exact SV.le.of_eq (by simp)) (Slots.cons rfl (by first | exact .refl _ | exact .nilOwn _ _ | exact .nilSl _ | exact .ownSl _ _ _  | exact SV.le.of_eq (by simp)) (Slots.cons rfl (by first | exact .refl _ | exact .nilOwn _ _ | exact .nilSl _ | exact .ownSl _ _ _  | exact SV.le.of_eq (by simp)) (Slots.cons rfl (by first | exact .refl _ | exact .nilOwn _ _ | exact .nilSl _ | exact .ownSl _ _ _  | exact SV.le.of_eq (by simp)) (Slots.cons rfl (by first | exact .refl _ | exact .nilOwn _ _ | exact .nilSl _ | exact .ownSl _ _ _  | exact SV.le.of_eq (by simp)) (Slots.cons rfl (by first | exact .refl _ | exact .nilOwn _ _ | exact .nilSl _ | exact .ownSl _ _ _  | exact SV.le.of_eq (by simp)) (Slots.cons rfl (by first | exact .refl _ | exact .nilOwn _ _ | exact .nilSl _ | exact .ownSl _ _ _  | exact SV.le.of_eq (by simp)) Slots.nil)))))))), (by first | exact List.Sublist.refl _ | exact .cons_cons _ (.cons _ (.refl _)) | exact List.nil_sublist _ | exact .cons _ (.refl _) | exact .cons _ (.cons _ (.refl _)) | exact .cons _ (.cons _ (.cons _ (.refl _))) | exact .cons _ (.cons _ (.cons _ (.cons _ (.refl _)))) | exact .cons_cons _ (List.nil_sublist _))⟩, (by omega), ⟨j + 1, (mset m2 s true), rfl, rfl, (by omega), (by rw [takeS hs, ← List.append_assoc]; exact nodup_snoc hn2 (fun h => by rw [(hm2 s).2 h] at hc5; cases hc5)), (by rw [takeS hs, ← List.append_assoc]; exact hasS_set hm2)⟩⟩
                ·
                  have hge : (namesC x).length ≤ j := by have := of_decide_eq_false hc4; rw [List.length_map] at this; omega
                  rw [List.take_of_length_le hge, ← names_take hx] at hn2 hm2
                  refine awp_exit ?_
                  refine x_thenE ?_
                  refine x_thenE ?_
                  refine x_blockE ?_
                  refine x_block ?_
                  refine x_then ?_
                  refine awp_region ?_
                  refine r_ari _ rfl rfl rfl (wrap_id (by first | omega | (simp; omega))) rfl ?_
                  refine r_move rfl rfl ?_
                  refine awl_nil ?_
                  refine x_then ?_
                  refine ⟨d.length - (k + 1), ⟨87, [(0, .a (fcsA d)), (3, .a (.v (.map (some b9)))), (10, .a (fcsA d)), (11, .a (.v (.int .i64 ((d.map FC.cs).length)))), (12, .a (.v (.int .i64 (((k + 1) : Int)))))], [⟨b9, true, .map (encM Value.string boolA (m2))⟩]⟩, ⟨rfl, (Slots.cons rfl (by first | exact .refl _ | exact .nilOwn _ _ | exact .nilSl _ | exact .ownSl _ _ _  | exact SV.le.of_eq (by simp)) (Slots.cons rfl (by first | exact .refl _ | exact .nilOwn _ _ | exact .nilSl _ | exact .ownSl _ _ _  | exact SV.le.of_eq (by simp)) (Slots.cons rfl (by first | exact .refl _ | exact .nilOwn _ _ | exact .nilSl _ | exact .ownSl _ _ _  | exact SV.le.of_eq (by simp)) (Slots.cons rfl (by first | exact .refl _ | exact .nilOwn _ _ | exact .nilSl _ | exact .ownSl _ _ _  | exact SV.le.of_eq (by simp)) (Slots.cons rfl (by first | exact .refl _ | exact .nilOwn _ _ | exact .nilSl _ | exact .ownSl _ _ _  | exact SV.le.of_eq (by simp)) Slots.nil))))), (by first | exact List.Sublist.refl _ | exact .cons_cons _ (.cons _ (.refl _)) | exact List.nil_sublist _ | exact .cons _ (.refl _) | exact .cons _ (.cons _ (.refl _)) | exact .cons _ (.cons _ (.cons _ (.refl _))) | exact .cons _ (.cons _ (.cons _ (.cons _ (.refl _)))) | exact .cons_cons _ (List.nil_sublist _))⟩, (by omega), ⟨k + 1, m2, rfl, rfl, (by omega), (fun i hi => by rcases Nat.lt_succ_iff_lt_or_eq.1 hi with h | rfl; exact hall i h; exact hgood), hn2, hm2⟩⟩
              ·
                have hns : namesC x = [x.name] := by simp [namesC, (by simpa using hc3 : ¬ x.kind = 4)]
                have hnsl : (namesC x).length ≤ 2 := by rw [hns]; simp
                refine awp_skip ?_
                refine x_then ?_
                refine awp_seq ?_
                refine awp_region ?_
                refine r_move rfl rfl ?_
                first | (refine r_lenS rfl rfl TF.sl57 rfl ?_) | (refine r_lenNil rfl TF.sl57 rfl ?_) | (refine r_lenV rfl TF.sl57 rfl ?_)
                refine r_move rfl rfl ?_
                refine awl_nil ?_
                refine x_then ?_
                refine awp_block ?_
                refine awp_loop (fun nn0 S => ∃ j : Nat, ∃ m2 : List (ByteArray × Bool), S = ⟨87, [(0, .a (fcsA d)), (3, .a (.v (.map (some b9)))), (10, .a (fcsA d)), (11, .a (.v (.int .i64 ((d.map FC.cs).length)))), (12, .a (.v (.int .i64 ((k : Int))))), (74, .a (strsA (namesC x))), (75, .a (.v (.int .i64 (((namesC x).map (fun s : ByteArray => [AV.v (.string s)])).length)))), (76, .a (.v (.int .i64 ((j : Int)))))], [⟨b9, true, .map (encM Value.string boolA m2)⟩]⟩ ∧ nn0 = (namesC x).length - j ∧ (j ≤ (namesC x).length) ∧ (((d.take k).flatMap namesC ++ (namesC x).take j).Nodup) ∧ (HasS m2 ((d.take k).flatMap namesC ++ (namesC x).take j))) ((namesC x).length - (0)) ⟨87, [(0, .a (fcsA d)), (3, .a (.v (.map (some b9)))), (10, .a (fcsA d)), (11, .a (.v (.int .i64 ((d.map FC.cs).length)))), (12, .a (.v (.int .i64 ((k : Int))))), (74, .a (strsA (namesC x))), (75, .a (.v (.int .i64 (((namesC x).map (fun s : ByteArray => [AV.v (.string s)])).length)))), (76, .a (.v (.int .i64 (((0) : Int)))))], [⟨b9, true, .map (encM Value.string boolA (m))⟩]⟩ ⟨rfl, (Slots.cons rfl (by first | exact .refl _ | exact .nilOwn _ _ | exact .nilSl _ | exact .ownSl _ _ _  | exact SV.le.ownEq (by first | rfl | (rw [hns]; rfl) | (rw [hns]; simp [chunks])) | exact SV.le.of_eq (by first | rfl | (rw [hns]; rfl) | (rw [hns]; simp [chunks]))) (Slots.cons rfl (by first | exact .refl _ | exact .nilOwn _ _ | exact .nilSl _ | exact .ownSl _ _ _  | exact SV.le.ownEq (by first | rfl | (rw [hns]; rfl) | (rw [hns]; simp [chunks])) | exact SV.le.of_eq (by first | rfl | (rw [hns]; rfl) | (rw [hns]; simp [chunks]))) (Slots.cons rfl (by first | exact .refl _ | exact .nilOwn _ _ | exact .nilSl _ | exact .ownSl _ _ _  | exact SV.le.ownEq (by first | rfl | (rw [hns]; rfl) | (rw [hns]; simp [chunks])) | exact SV.le.of_eq (by first | rfl | (rw [hns]; rfl) | (rw [hns]; simp [chunks]))) (Slots.cons rfl (by first | exact .refl _ | exact .nilOwn _ _ | exact .nilSl _ | exact .ownSl _ _ _  | exact SV.le.ownEq (by first | rfl | (rw [hns]; rfl) | (rw [hns]; simp [chunks])) | exact SV.le.of_eq (by first | rfl | (rw [hns]; rfl) | (rw [hns]; simp [chunks]))) (Slots.cons rfl (by first | exact .refl _ | exact .nilOwn _ _ | exact .nilSl _ | exact .ownSl _ _ _  | exact SV.le.ownEq (by first | rfl | (rw [hns]; rfl) | (rw [hns]; simp [chunks])) | exact SV.le.of_eq (by first | rfl | (rw [hns]; rfl) | (rw [hns]; simp [chunks]))) (Slots.cons rfl (by first | exact .refl _ | exact .nilOwn _ _ | exact .nilSl _ | exact .ownSl _ _ _  | exact SV.le.ownEq (by first | rfl | (rw [hns]; rfl) | (rw [hns]; simp [chunks])) | exact SV.le.of_eq (by first | rfl | (rw [hns]; rfl) | (rw [hns]; simp [chunks]))) (Slots.cons rfl (by first | exact .refl _ | exact .nilOwn _ _ | exact .nilSl _ | exact .ownSl _ _ _  | exact SV.le.ownEq (by first | rfl | (rw [hns]; rfl) | (rw [hns]; simp [chunks])) | exact SV.le.of_eq (by first | rfl | (rw [hns]; rfl) | (rw [hns]; simp [chunks]))) (Slots.cons rfl (by first | exact .refl _ | exact .nilOwn _ _ | exact .nilSl _ | exact .ownSl _ _ _  | exact SV.le.ownEq (by first | rfl | (rw [hns]; rfl) | (rw [hns]; simp [chunks])) | exact SV.le.of_eq (by first | rfl | (rw [hns]; rfl) | (rw [hns]; simp [chunks]))) Slots.nil)))))))), (by first | exact List.Sublist.refl _ | exact .cons_cons _ (.cons _ (.refl _)) | exact List.nil_sublist _ | exact .cons _ (.refl _) | exact .cons _ (.cons _ (.refl _)) | exact .cons _ (.cons _ (.cons _ (.refl _))) | exact .cons _ (.cons _ (.cons _ (.cons _ (.refl _)))) | exact .cons_cons _ (List.nil_sublist _))⟩ ⟨0, m, rfl, rfl, Nat.zero_le _, (by simpa using hnd), (by simpa using hm)⟩ ?_
                rintro nn0 _ ⟨j, m2, rfl, rfl, hj, hn2, hm2⟩
                refine awp_seq ?_
                refine awp_region ?_
                refine r_cmp rfl rfl rfl rfl ?_
                refine awl_nil ?_
                refine x_then ?_
                refine awp_seq ?_
                refine awp_cond rfl (fun hc4 => ?_) (fun hc4 => ?_)
                ·
                  have hlts : j < (namesC x).length := by have := of_decide_eq_true hc4; rw [List.length_map] at this; omega
                  obtain ⟨s, hs⟩ := get_lt hlts
                  refine awp_skip ?_
                  refine x_then ?_
                  refine awp_seq ?_
                  refine awp_block ?_
                  refine awp_seq ?_
                  refine awp_region ?_
                  refine r_index rfl rfl rfl TF.sl57 TF.sz9 (by omega) (get_map hs) rfl ?_
                  first | (refine r_load1b 0 rfl rfl rfl TF.agg9 rfl ?_) | (refine r_load1 rfl TF.agg9 rfl ?_)
                  refine r_assign rfl rfl ?_
                  refine awl_nil ?_
                  refine x_then ?_
                  refine awp_seq ?_
                  refine awp_seq ?_
                  refine awp_region ?_
                  refine r_move rfl rfl ?_
                  refine r_move rfl rfl ?_
                  refine r_lookup 0 (keyEnc_string TF.un9) (ev := boolA) false rfl rfl rfl TF.map70 TF.zav4 rfl ?_
                  refine awl_nil ?_
                  refine x_then ?_
                  refine awp_cond rfl (fun hc5 => ?_) (fun hc5 => ?_)
                  ·
                    refine awp_seq ?_
                    refine awp_region ?_
                    refine r_assign rfl rfl ?_
                    refine awl_nil ?_
                    refine x_then ?_
                    refine awp_ret ?_
                    refine x_thenR ?_
                    refine x_blockR ?_
                    refine x_thenR ?_
                    refine x_thenR ?_
                    refine x_blockR ?_
                    refine x_blockR ?_
                    refine x_thenR ?_
                    refine x_thenR ?_
                    refine x_blockR ?_
                    refine x_thenR ?_
                    exact ⟨(.inl rfl), _, [], (.one (by first | exact .mk rfl rfl | exact .nil rfl)), ⟨rfl, by first | (rw [right_bad hltx hbad]; rfl) | (rw [right_dup hx hs ((hm2 s).1 hc5)]; rfl) | (rw [right_good (fun i hi => hall i (by omega)) hnd]; rfl)⟩, (List.nil_sublist _), (by simp)⟩
                  ·
                    refine awp_skip ?_
                    refine x_then ?_
                    refine awp_region ?_
                    refine r_move rfl rfl ?_
                    refine r_move rfl rfl ?_
                    refine r_mapUpdate 0 (keyEnc_string TF.un9) (ev := boolA) true rfl rfl rfl rfl rfl TF.map70 ?_
                    refine awl_nil ?_
                    refine x_block ?_
                    refine x_then ?_
                    refine awp_region ?_
                    refine r_ari _ rfl rfl rfl (wrap_id (by first | omega | (simp; omega))) rfl ?_
                    refine r_move rfl rfl ?_
                    refine awl_nil ?_
                    refine x_then ?_
                    refine ⟨(namesC x).length - (j + 1), ⟨87, [(0, .a (fcsA d)), (3, .a (.v (.map (some b9)))), (10, .a (fcsA d)), (11, .a (.v (.int .i64 ((d.map FC.cs).length)))), (12, .a (.v (.int .i64 ((k : Int))))), (74, .a (strsA (namesC x))), (75, .a (.v (.int .i64 (((namesC x).map (fun s : ByteArray => [AV.v (.string s)])).length)))), (76, .a (.v (.int .i64 (((j + 1) : Int)))))], [⟨b9, true, .map (encM Value.string boolA ((mset m2 s true)))⟩]⟩, ⟨rfl, (Slots.cons rfl (by first | exact .refl _ | exact .nilOwn _ _ | exact .nilSl _ | exact .ownSl _ _ _  | exact SV.le.of_eq (by simp)) (Slots.cons rfl (by first | exact .refl _ | exact .nilOwn _ _ | exact .nilSl _ | exact .ownSl _ _ _  | exact SV.le.of_eq (by simp)) (Slots.cons rfl (by first | exact .refl _ | exact .nilOwn _ _ | exact .nilSl _ | exact .ownSl _ _ _  | exact SV.le.of_eq (by simp)) (Slots.cons rfl (by first | exact .refl _ | exact .nilOwn _ _ | exact .nilSl _ | exact .ownSl _ _ _  | exact SV.le.of_eq (by simp)) (Slots.cons rfl (by first | exact .refl _ | exact .nilOwn _ _ | exact .nilSl _ | exact .ownSl _ _ _  | exact SV.le.of_eq (by simp)) (Slots.cons rfl (by first | exact .refl _ | exact .nilOwn _ _ | exact .nilSl _ | exact .ownSl _ _ _  | exact SV.le.of_eq (by simp)) (Slots.cons rfl (by first | exact .refl _ | exact .nilOwn _ _ | exact .nilSl _ | exact .ownSl _ _ _  | exact SV.le.of_eq (by simp)) (Slots.cons rfl (by first | exact .refl _ | exact .nilOwn _ _ | exact .nilSl _ | exact .ownSl _ _ _  | exact SV.le.of_eq (by simp)) Slots.nil)))))))), (by first | exact List.Sublist.refl _ | exact .cons_cons _ (.cons _ (.refl _)) | exact List.nil_sublist _ | exact .cons _ (.refl _) | exact .cons _ (.cons _ (.refl _)) | exact .cons _ (.cons _ (.cons _ (.refl _))) | exact .cons _ (.cons _ (.cons _ (.cons _ (.refl _)))) | exact .cons_cons _ (List.nil_sublist _))⟩, (by omega), ⟨j + 1, (mset m2 s true), rfl, rfl, (by omega), (by rw [takeS hs, ← List.append_assoc]; exact nodup_snoc hn2 (fun h => by rw [(hm2 s).2 h] at hc5; cases hc5)), (by rw [takeS hs, ← List.append_assoc]; exact hasS_set hm2)⟩⟩
                ·
                  have hge : (namesC x).length ≤ j := by have := of_decide_eq_false hc4; rw [List.length_map] at this; omega
                  rw [List.take_of_length_le hge, ← names_take hx] at hn2 hm2
                  refine awp_exit ?_
                  refine x_thenE ?_
                  refine x_thenE ?_
                  refine x_blockE ?_
                  refine x_block ?_
                  refine x_then ?_
                  refine awp_region ?_
                  refine r_ari _ rfl rfl rfl (wrap_id (by first | omega | (simp; omega))) rfl ?_
                  refine r_move rfl rfl ?_
                  refine awl_nil ?_
                  refine x_then ?_
                  refine ⟨d.length - (k + 1), ⟨87, [(0, .a (fcsA d)), (3, .a (.v (.map (some b9)))), (10, .a (fcsA d)), (11, .a (.v (.int .i64 ((d.map FC.cs).length)))), (12, .a (.v (.int .i64 (((k + 1) : Int)))))], [⟨b9, true, .map (encM Value.string boolA (m2))⟩]⟩, ⟨rfl, (Slots.cons rfl (by first | exact .refl _ | exact .nilOwn _ _ | exact .nilSl _ | exact .ownSl _ _ _  | exact SV.le.of_eq (by simp)) (Slots.cons rfl (by first | exact .refl _ | exact .nilOwn _ _ | exact .nilSl _ | exact .ownSl _ _ _  | exact SV.le.of_eq (by simp)) (Slots.cons rfl (by first | exact .refl _ | exact .nilOwn _ _ | exact .nilSl _ | exact .ownSl _ _ _  | exact SV.le.of_eq (by simp)) (Slots.cons rfl (by first | exact .refl _ | exact .nilOwn _ _ | exact .nilSl _ | exact .ownSl _ _ _  | exact SV.le.of_eq (by simp)) (Slots.cons rfl (by first | exact .refl _ | exact .nilOwn _ _ | exact .nilSl _ | exact .ownSl _ _ _  | exact SV.le.of_eq (by simp)) Slots.nil))))), (by first | exact List.Sublist.refl _ | exact .cons_cons _ (.cons _ (.refl _)) | exact List.nil_sublist _ | exact .cons _ (.refl _) | exact .cons _ (.cons _ (.refl _)) | exact .cons _ (.cons _ (.cons _ (.refl _))) | exact .cons _ (.cons _ (.cons _ (.cons _ (.refl _)))) | exact .cons_cons _ (List.nil_sublist _))⟩, (by omega), ⟨k + 1, m2, rfl, rfl, (by omega), (fun i hi => by rcases Nat.lt_succ_iff_lt_or_eq.1 hi with h | rfl; exact hall i h; exact hgood), hn2, hm2⟩⟩
        ·
          have hk0 : ¬ 0 < k := by have := of_decide_eq_false hg28; omega
          have hgood : okC d k = true := by simp only [okC, hx, hg21, hbr, decide_eq_false hk0]; rfl
          refine awp_drawS [26, 27, 28, 29, 30, 31, 32, 33, 34, 35, 36, 37, 38, 39, 40, 41, 42, 43, 44, 45, 46, 47, 48, 49, 50, 51, 52, 53, 54, 55, 56, 57, 58] [_, _, _, _, _, _, _, _, _, _, _, _, _, _, _, _, _, _, _, _, _, _, _, _, _, _, _, _, _, _, _, _, _] [] [] TF.mixed rfl rfl rfl ⟨⟨⟨⟨⟨⟨⟨⟨⟨⟨⟨⟨⟨⟨⟨⟨⟨⟨⟨⟨⟨⟨⟨⟨⟨⟨⟨⟨⟨⟨⟨⟨⟨trivial
            , ⟨_, rfl, fun sl hd hr ho => by
                refine r_move (hr 4 _ rfl rfl rfl) rfl ?_
                exact awl_nil ⟨rfl, post_put⟩⟩⟩
            , ⟨_, rfl, fun sl hd hr ho => by
                refine r_cmp (hd 0 _ rfl rfl rfl) rfl rfl rfl ?_
                exact awl_nil ⟨rfl, post_put⟩⟩⟩
            , ⟨_, rfl, fun sl hd hr ho => by
                refine r_move (hd 1 _ rfl rfl rfl) rfl ?_
                exact awl_nil ⟨rfl, post_put⟩⟩⟩
            , ⟨_, rfl, fun sl hd hr ho => by
                refine g_skip rfl (hd 2 _ rfl rfl rfl) hg28 rfl ?_
                exact awl_nil ⟨rfl, post_put⟩⟩⟩
            , ⟨_, rfl, fun sl hd hr ho => by
                refine g_skip rfl (hd 2 _ rfl rfl rfl) hg28 rfl ?_
                exact awl_nil ⟨rfl, post_put⟩⟩⟩
            , ⟨_, rfl, fun sl hd hr ho => by
                refine g_skip rfl (hd 2 _ rfl rfl rfl) hg28 rfl ?_
                exact awl_nil ⟨rfl, post_put⟩⟩⟩
            , ⟨_, rfl, fun sl hd hr ho => by
                refine g_skip rfl (hd 2 _ rfl rfl rfl) hg28 rfl ?_
                exact awl_nil ⟨rfl, post_put⟩⟩⟩
            , ⟨_, rfl, fun sl hd hr ho => by
                refine g_skip rfl (hd 2 _ rfl rfl rfl) hg28 rfl ?_
                exact awl_nil ⟨rfl, post_put⟩⟩⟩
            , ⟨_, rfl, fun sl hd hr ho => by
                refine g_skip rfl (hd 2 _ rfl rfl rfl) hg28 rfl ?_
                exact awl_nil ⟨rfl, post_put⟩⟩⟩
            , ⟨_, rfl, fun sl hd hr ho => by
                refine g_skip rfl (hd 2 _ rfl rfl rfl) hg28 rfl ?_
                exact awl_nil ⟨rfl, post_put⟩⟩⟩
            , ⟨_, rfl, fun sl hd hr ho => by
                refine g_skip rfl (hd 2 _ rfl rfl rfl) hg28 rfl ?_
                exact awl_nil ⟨rfl, post_put⟩⟩⟩
            , ⟨_, rfl, fun sl hd hr ho => by
                refine g_skip rfl (hd 2 _ rfl rfl rfl) hg28 rfl ?_
                exact awl_nil ⟨rfl, post_put⟩⟩⟩
            , ⟨_, rfl, fun sl hd hr ho => by
                refine g_skip rfl (hd 2 _ rfl rfl rfl) hg28 rfl ?_
                exact awl_nil ⟨rfl, post_put⟩⟩⟩
            , ⟨_, rfl, fun sl hd hr ho => by
                refine g_skip rfl (hd 2 _ rfl rfl rfl) hg28 rfl ?_
                exact awl_nil ⟨rfl, post_put⟩⟩⟩
            , ⟨_, rfl, fun sl hd hr ho => by
                refine g_skip rfl (hd 2 _ rfl rfl rfl) hg28 rfl ?_
                exact awl_nil ⟨rfl, post_put⟩⟩⟩
            , ⟨_, rfl, fun sl hd hr ho => by
                refine g_skipU rfl (hd 14 _ rfl rfl rfl) rfl ?_
                exact awl_nil ⟨rfl, post_put⟩⟩⟩
            , ⟨_, rfl, fun sl hd hr ho => by
                refine g_skipU rfl (hd 14 _ rfl rfl rfl) rfl ?_
                exact awl_nil ⟨rfl, post_put⟩⟩⟩
            , ⟨_, rfl, fun sl hd hr ho => by
                refine g_skipU rfl (hd 14 _ rfl rfl rfl) rfl ?_
                exact awl_nil ⟨rfl, post_put⟩⟩⟩
            , ⟨_, rfl, fun sl hd hr ho => by
                refine g_skipU rfl (hd 14 _ rfl rfl rfl) rfl ?_
                exact awl_nil ⟨rfl, post_put⟩⟩⟩
            , ⟨_, rfl, fun sl hd hr ho => by
                refine g_skipU rfl (hd 14 _ rfl rfl rfl) rfl ?_
                exact awl_nil ⟨rfl, post_put⟩⟩⟩
            , ⟨_, rfl, fun sl hd hr ho => by
                refine g_skipU rfl (hd 14 _ rfl rfl rfl) rfl ?_
                exact awl_nil ⟨rfl, post_put⟩⟩⟩
            , ⟨_, rfl, fun sl hd hr ho => by
                refine g_skipU rfl (hd 14 _ rfl rfl rfl) rfl ?_
                exact awl_nil ⟨rfl, post_put⟩⟩⟩
            , ⟨_, rfl, fun sl hd hr ho => by
                refine g_skipU rfl (hd 14 _ rfl rfl rfl) rfl ?_
                exact awl_nil ⟨rfl, post_put⟩⟩⟩
            , ⟨_, rfl, fun sl hd hr ho => by
                refine g_skipU rfl (hd 14 _ rfl rfl rfl) rfl ?_
                exact awl_nil ⟨rfl, post_put⟩⟩⟩
            , ⟨_, rfl, fun sl hd hr ho => by
                refine g_skipU rfl (hd 14 _ rfl rfl rfl) rfl ?_
                exact awl_nil ⟨rfl, post_put⟩⟩⟩
            , ⟨_, rfl, fun sl hd hr ho => by
                refine g_skipU rfl (hd 24 _ rfl rfl rfl) rfl ?_
                exact awl_nil ⟨rfl, post_put⟩⟩⟩
            , ⟨_, rfl, fun sl hd hr ho => by
                refine g_skipU rfl (hd 24 _ rfl rfl rfl) rfl ?_
                exact awl_nil ⟨rfl, post_put⟩⟩⟩
            , ⟨_, rfl, fun sl hd hr ho => by
                refine g_skipU rfl (hd 24 _ rfl rfl rfl) rfl ?_
                exact awl_nil ⟨rfl, post_put⟩⟩⟩
            , ⟨_, rfl, fun sl hd hr ho => by
                refine g_skipU rfl (hd 24 _ rfl rfl rfl) rfl ?_
                exact awl_nil ⟨rfl, post_put⟩⟩⟩
            , ⟨_, rfl, fun sl hd hr ho => by
                refine g_skipU rfl (hd 24 _ rfl rfl rfl) rfl ?_
                exact awl_nil ⟨rfl, post_put⟩⟩⟩
            , ⟨_, rfl, fun sl hd hr ho => by
                refine g_skipU rfl (hd 24 _ rfl rfl rfl) rfl ?_
                exact awl_nil ⟨rfl, post_put⟩⟩⟩
            , ⟨_, rfl, fun sl hd hr ho => by
                refine g_skipU rfl (hd 24 _ rfl rfl rfl) rfl ?_
                exact awl_nil ⟨rfl, post_put⟩⟩⟩
            , ⟨_, rfl, fun sl hd hr ho => by
                refine g_skipU rfl (hd 24 _ rfl rfl rfl) rfl ?_
                exact awl_nil ⟨rfl, post_put⟩⟩⟩
            (by rfl) ?_
          refine g_skipU rfl rfl rfl ?_
          refine g_skipU rfl rfl rfl ?_
          refine g_skip rfl rfl hg28 rfl ?_
          refine r_pickF rfl hg28 rfl rfl ?_
          refine awl_nil ?_
          refine x_then ?_
          refine awp_condF rfl ?_
          refine awp_skip ?_
          refine x_then ?_
          refine awp_seq ?_
          refine awp_region ?_
          first | (refine r_fieldb rfl TF.f50_1 TF.sz9 rfl ?_) | (refine r_fieldcp rfl TF.f50_1 TF.sz9 rfl ?_)
          first | (refine r_load1b 0 rfl rfl rfl TF.agg9 rfl ?_) | (refine r_load1 rfl TF.agg9 rfl ?_) | (refine r_load1b 1 rfl rfl rfl TF.agg9 rfl ?_)
          refine r_lit 65 (parts := [(0, .tmp 64)]) rfl TF.sl57 TF.sz9 TF.zraw9 rfl rfl rfl rfl rfl rfl rfl ?_
          refine r_assign rfl rfl ?_
          refine awl_nil ?_
          refine x_then ?_
          refine awp_seq ?_
          refine awp_seq ?_
          refine awp_region ?_
          first | (refine r_fieldb rfl TF.f50_0 TF.sz3 rfl ?_) | (refine r_fieldcp rfl TF.f50_0 TF.sz3 rfl ?_)
          first | (refine r_load1b 0 rfl rfl rfl TF.agg3 rfl ?_) | (refine r_load1 rfl TF.agg3 rfl ?_) | (refine r_load1b 1 rfl rfl rfl TF.agg3 rfl ?_)
          refine r_cmp rfl rfl rfl rfl ?_
          refine awl_nil ?_
          refine x_then ?_
          refine awp_cond rfl (fun hc3 => ?_) (fun hc3 => ?_)
          ·
            have hns : namesC x = [x.name, x.to] := by simp [namesC, (eq_of_beq hc3 : x.kind = 4)]
            have hnsl : (namesC x).length ≤ 2 := by rw [hns]; simp
            refine awp_region ?_
            refine r_move rfl rfl ?_
            first | (refine r_fieldb rfl TF.f50_2 TF.sz9 rfl ?_) | (refine r_fieldcp rfl TF.f50_2 TF.sz9 rfl ?_)
            first | (refine r_load1b 0 rfl rfl rfl TF.agg9 rfl ?_) | (refine r_load1 rfl TF.agg9 rfl ?_) | (refine r_load1b 1 rfl rfl rfl TF.agg9 rfl ?_)
            refine r_lit 72 (parts := [(0, .tmp 71)]) rfl TF.sl57 TF.sz9 TF.zraw9 rfl rfl rfl rfl rfl rfl rfl ?_
            refine r_append 65 rfl (by first | exact .own _ | exact .nil) rfl (by first | exact .sl _ | exact .own _ _ | exact .nil) TF.sl57 TF.sz9 (by decide) TF.by9 TF.zlen9 (by simp [chunks] <;> omega) (by simp [chunks] <;> omega) rfl ?_
            refine r_assign rfl rfl ?_
            refine awl_nil ?_
            refine x_then ?_
            refine awp_seq ?_
            refine awp_region ?_
            refine r_move rfl rfl ?_
            first | (refine r_lenS rfl rfl TF.sl57 rfl ?_) | (refine r_lenNil rfl TF.sl57 rfl ?_) | (refine r_lenV rfl TF.sl57 rfl ?_)
            refine r_move rfl rfl ?_
            refine awl_nil ?_
            refine x_then ?_
            refine awp_block ?_
            refine awp_loop (fun nn0 S => ∃ j : Nat, ∃ m2 : List (ByteArray × Bool), S = ⟨87, [(0, .a (fcsA d)), (3, .a (.v (.map (some b9)))), (10, .a (fcsA d)), (11, .a (.v (.int .i64 ((d.map FC.cs).length)))), (12, .a (.v (.int .i64 ((k : Int))))), (74, .a (strsA (namesC x))), (75, .a (.v (.int .i64 (((namesC x).map (fun s : ByteArray => [AV.v (.string s)])).length)))), (76, .a (.v (.int .i64 ((j : Int)))))], [⟨b9, true, .map (encM Value.string boolA m2)⟩]⟩ ∧ nn0 = (namesC x).length - j ∧ (j ≤ (namesC x).length) ∧ (((d.take k).flatMap namesC ++ (namesC x).take j).Nodup) ∧ (HasS m2 ((d.take k).flatMap namesC ++ (namesC x).take j))) ((namesC x).length - (0)) ⟨87, [(0, .a (fcsA d)), (3, .a (.v (.map (some b9)))), (10, .a (fcsA d)), (11, .a (.v (.int .i64 ((d.map FC.cs).length)))), (12, .a (.v (.int .i64 ((k : Int))))), (74, .a (strsA (namesC x))), (75, .a (.v (.int .i64 (((namesC x).map (fun s : ByteArray => [AV.v (.string s)])).length)))), (76, .a (.v (.int .i64 (((0) : Int)))))], [⟨b9, true, .map (encM Value.string boolA (m))⟩]⟩ ⟨rfl, (Slots.cons rfl (by first | exact .refl _ | exact .nilOwn _ _ | exact .nilSl _ | exact .ownSl _ _ _  | exact SV.le.ownEq (by first | rfl | (rw [hns]; rfl) | (rw [hns]; simp [chunks])) | exact SV.le.of_eq (by first | rfl | (rw [hns]; rfl) | (rw [hns]; simp [chunks]))) (Slots.cons rfl (by first | exact .refl _ | exact .nilOwn _ _ | exact .nilSl _ | exact .ownSl _ _ _  | exact SV.le.ownEq (by first | rfl | (rw [hns]; rfl) | (rw [hns]; simp [chunks])) | exact SV.le.of_eq (by first | rfl | (rw [hns]; rfl) | (rw [hns]; simp [chunks]))) (Slots.cons rfl (by first | exact .refl _ | exact .nilOwn _ _ | exact .nilSl _ | exact .ownSl _ _ _  | exact SV.le.ownEq (by first | rfl | (rw [hns]; rfl) | (rw [hns]; simp [chunks])) | exact SV.le.of_eq (by first | rfl | (rw [hns]; rfl) | (rw [hns]; simp [chunks]))) (Slots.cons rfl (by first | exact .refl _ | exact .nilOwn _ _ | exact .nilSl _ | exact .ownSl _ _ _  | exact SV.le.ownEq (by first | rfl | (rw [hns]; rfl) | (rw [hns]; simp [chunks])) | exact SV.le.of_eq (by first | rfl | (rw [hns]; rfl) | (rw [hns]; simp [chunks]))) (Slots.cons rfl (by first | exact .refl _ | exact .nilOwn _ _ | exact .nilSl _ | exact .ownSl _ _ _  | exact SV.le.ownEq (by first | rfl | (rw [hns]; rfl) | (rw [hns]; simp [chunks])) | exact SV.le.of_eq (by first | rfl | (rw [hns]; rfl) | (rw [hns]; simp [chunks]))) (Slots.cons rfl (by first | exact .refl _ | exact .nilOwn _ _ | exact .nilSl _ | exact .ownSl _ _ _  | exact SV.le.ownEq (by first | rfl | (rw [hns]; rfl) | (rw [hns]; simp [chunks])) | exact SV.le.of_eq (by first | rfl | (rw [hns]; rfl) | (rw [hns]; simp [chunks]))) (Slots.cons rfl (by first | exact .refl _ | exact .nilOwn _ _ | exact .nilSl _ | exact .ownSl _ _ _  | exact SV.le.ownEq (by first | rfl | (rw [hns]; rfl) | (rw [hns]; simp [chunks])) | exact SV.le.of_eq (by first | rfl | (rw [hns]; rfl) | (rw [hns]; simp [chunks]))) (Slots.cons rfl (by first | exact .refl _ | exact .nilOwn _ _ | exact .nilSl _ | exact .ownSl _ _ _  | exact SV.le.ownEq (by first | rfl | (rw [hns]; rfl) | (rw [hns]; simp [chunks])) | exact SV.le.of_eq (by first | rfl | (rw [hns]; rfl) | (rw [hns]; simp [chunks]))) Slots.nil)))))))), (by first | exact List.Sublist.refl _ | exact .cons_cons _ (.cons _ (.refl _)) | exact List.nil_sublist _ | exact .cons _ (.refl _) | exact .cons _ (.cons _ (.refl _)) | exact .cons _ (.cons _ (.cons _ (.refl _))) | exact .cons _ (.cons _ (.cons _ (.cons _ (.refl _)))) | exact .cons_cons _ (List.nil_sublist _))⟩ ⟨0, m, rfl, rfl, Nat.zero_le _, (by simpa using hnd), (by simpa using hm)⟩ ?_
            rintro nn0 _ ⟨j, m2, rfl, rfl, hj, hn2, hm2⟩
            refine awp_seq ?_
            refine awp_region ?_
            refine r_cmp rfl rfl rfl rfl ?_
            refine awl_nil ?_
            refine x_then ?_
            refine awp_seq ?_
            refine awp_cond rfl (fun hc4 => ?_) (fun hc4 => ?_)
            ·
              have hlts : j < (namesC x).length := by have := of_decide_eq_true hc4; rw [List.length_map] at this; omega
              obtain ⟨s, hs⟩ := get_lt hlts
              refine awp_skip ?_
              refine x_then ?_
              refine awp_seq ?_
              refine awp_block ?_
              refine awp_seq ?_
              refine awp_region ?_
              refine r_index rfl rfl rfl TF.sl57 TF.sz9 (by omega) (get_map hs) rfl ?_
              first | (refine r_load1b 0 rfl rfl rfl TF.agg9 rfl ?_) | (refine r_load1 rfl TF.agg9 rfl ?_)
              refine r_assign rfl rfl ?_
              refine awl_nil ?_
              refine x_then ?_
              refine awp_seq ?_
              refine awp_seq ?_
              refine awp_region ?_
              refine r_move rfl rfl ?_
              refine r_move rfl rfl ?_
              refine r_lookup 0 (keyEnc_string TF.un9) (ev := boolA) false rfl rfl rfl TF.map70 TF.zav4 rfl ?_
              refine awl_nil ?_
              refine x_then ?_
              refine awp_cond rfl (fun hc5 => ?_) (fun hc5 => ?_)
              ·
                refine awp_seq ?_
                refine awp_region ?_
                refine r_assign rfl rfl ?_
                refine awl_nil ?_
                refine x_then ?_
                refine awp_ret ?_
                refine x_thenR ?_
                refine x_blockR ?_
                refine x_thenR ?_
                refine x_thenR ?_
                refine x_blockR ?_
                refine x_blockR ?_
                refine x_thenR ?_
                refine x_thenR ?_
                refine x_blockR ?_
                refine x_thenR ?_
                exact ⟨(.inl rfl), _, [], (.one (by first | exact .mk rfl rfl | exact .nil rfl)), ⟨rfl, by first | (rw [right_bad hltx hbad]; rfl) | (rw [right_dup hx hs ((hm2 s).1 hc5)]; rfl) | (rw [right_good (fun i hi => hall i (by omega)) hnd]; rfl)⟩, (List.nil_sublist _), (by simp)⟩
              ·
                refine awp_skip ?_
                refine x_then ?_
                refine awp_region ?_
                refine r_move rfl rfl ?_
                refine r_move rfl rfl ?_
                refine r_mapUpdate 0 (keyEnc_string TF.un9) (ev := boolA) true rfl rfl rfl rfl rfl TF.map70 ?_
                refine awl_nil ?_
                refine x_block ?_
                refine x_then ?_
                refine awp_region ?_
                refine r_ari _ rfl rfl rfl (wrap_id (by first | omega | (simp; omega))) rfl ?_
                refine r_move rfl rfl ?_
                refine awl_nil ?_
                refine x_then ?_
                refine ⟨(namesC x).length - (j + 1), ⟨87, [(0, .a (fcsA d)), (3, .a (.v (.map (some b9)))), (10, .a (fcsA d)), (11, .a (.v (.int .i64 ((d.map FC.cs).length)))), (12, .a (.v (.int .i64 ((k : Int))))), (74, .a (strsA (namesC x))), (75, .a (.v (.int .i64 (((namesC x).map (fun s : ByteArray => [AV.v (.string s)])).length)))), (76, .a (.v (.int .i64 (((j + 1) : Int)))))], [⟨b9, true, .map (encM Value.string boolA ((mset m2 s true)))⟩]⟩, ⟨rfl, (Slots.cons rfl (by first | exact .refl _ | exact .nilOwn _ _ | exact .nilSl _ | exact .ownSl _ _ _  | exact SV.le.of_eq (by simp)) (Slots.cons rfl (by first | exact .refl _ | exact .nilOwn _ _ | exact .nilSl _ | exact .ownSl _ _ _  | exact SV.le.of_eq (by simp)) (Slots.cons rfl (by first | exact .refl _ | exact .nilOwn _ _ | exact .nilSl _ | exact .ownSl _ _ _  | exact SV.le.of_eq (by simp)) (Slots.cons rfl (by first | exact .refl _ | exact .nilOwn _ _ | exact .nilSl _ | exact .ownSl _ _ _  | exact SV.le.of_eq (by simp)) (Slots.cons rfl (by first | exact .refl _ | exact .nilOwn _ _ | exact .nilSl _ | exact .ownSl _ _ _  | exact SV.le.of_eq (by simp)) (Slots.cons rfl (by first | exact .refl _ | exact .nilOwn _ _ | exact .nilSl _ | exact .ownSl _ _ _  | exact SV.le.of_eq (by simp)) (Slots.cons rfl (by first | exact .refl _ | exact .nilOwn _ _ | exact .nilSl _ | exact .ownSl _ _ _  | exact SV.le.of_eq (by simp)) (Slots.cons rfl (by first | exact .refl _ | exact .nilOwn _ _ | exact .nilSl _ | exact .ownSl _ _ _  | exact SV.le.of_eq (by simp)) Slots.nil)))))))), (by first | exact List.Sublist.refl _ | exact .cons_cons _ (.cons _ (.refl _)) | exact List.nil_sublist _ | exact .cons _ (.refl _) | exact .cons _ (.cons _ (.refl _)) | exact .cons _ (.cons _ (.cons _ (.refl _))) | exact .cons _ (.cons _ (.cons _ (.cons _ (.refl _)))) | exact .cons_cons _ (List.nil_sublist _))⟩, (by omega), ⟨j + 1, (mset m2 s true), rfl, rfl, (by omega), (by rw [takeS hs, ← List.append_assoc]; exact nodup_snoc hn2 (fun h => by rw [(hm2 s).2 h] at hc5; cases hc5)), (by rw [takeS hs, ← List.append_assoc]; exact hasS_set hm2)⟩⟩
            ·
              have hge : (namesC x).length ≤ j := by have := of_decide_eq_false hc4; rw [List.length_map] at this; omega
              rw [List.take_of_length_le hge, ← names_take hx] at hn2 hm2
              refine awp_exit ?_
              refine x_thenE ?_
              refine x_thenE ?_
              refine x_blockE ?_
              refine x_block ?_
              refine x_then ?_
              refine awp_region ?_
              refine r_ari _ rfl rfl rfl (wrap_id (by first | omega | (simp; omega))) rfl ?_
              refine r_move rfl rfl ?_
              refine awl_nil ?_
              refine x_then ?_
              refine ⟨d.length - (k + 1), ⟨87, [(0, .a (fcsA d)), (3, .a (.v (.map (some b9)))), (10, .a (fcsA d)), (11, .a (.v (.int .i64 ((d.map FC.cs).length)))), (12, .a (.v (.int .i64 (((k + 1) : Int)))))], [⟨b9, true, .map (encM Value.string boolA (m2))⟩]⟩, ⟨rfl, (Slots.cons rfl (by first | exact .refl _ | exact .nilOwn _ _ | exact .nilSl _ | exact .ownSl _ _ _  | exact SV.le.of_eq (by simp)) (Slots.cons rfl (by first | exact .refl _ | exact .nilOwn _ _ | exact .nilSl _ | exact .ownSl _ _ _  | exact SV.le.of_eq (by simp)) (Slots.cons rfl (by first | exact .refl _ | exact .nilOwn _ _ | exact .nilSl _ | exact .ownSl _ _ _  | exact SV.le.of_eq (by simp)) (Slots.cons rfl (by first | exact .refl _ | exact .nilOwn _ _ | exact .nilSl _ | exact .ownSl _ _ _  | exact SV.le.of_eq (by simp)) (Slots.cons rfl (by first | exact .refl _ | exact .nilOwn _ _ | exact .nilSl _ | exact .ownSl _ _ _  | exact SV.le.of_eq (by simp)) Slots.nil))))), (by first | exact List.Sublist.refl _ | exact .cons_cons _ (.cons _ (.refl _)) | exact List.nil_sublist _ | exact .cons _ (.refl _) | exact .cons _ (.cons _ (.refl _)) | exact .cons _ (.cons _ (.cons _ (.refl _))) | exact .cons _ (.cons _ (.cons _ (.cons _ (.refl _)))) | exact .cons_cons _ (List.nil_sublist _))⟩, (by omega), ⟨k + 1, m2, rfl, rfl, (by omega), (fun i hi => by rcases Nat.lt_succ_iff_lt_or_eq.1 hi with h | rfl; exact hall i h; exact hgood), hn2, hm2⟩⟩
          ·
            have hns : namesC x = [x.name] := by simp [namesC, (by simpa using hc3 : ¬ x.kind = 4)]
            have hnsl : (namesC x).length ≤ 2 := by rw [hns]; simp
            refine awp_skip ?_
            refine x_then ?_
            refine awp_seq ?_
            refine awp_region ?_
            refine r_move rfl rfl ?_
            first | (refine r_lenS rfl rfl TF.sl57 rfl ?_) | (refine r_lenNil rfl TF.sl57 rfl ?_) | (refine r_lenV rfl TF.sl57 rfl ?_)
            refine r_move rfl rfl ?_
            refine awl_nil ?_
            refine x_then ?_
            refine awp_block ?_
            refine awp_loop (fun nn0 S => ∃ j : Nat, ∃ m2 : List (ByteArray × Bool), S = ⟨87, [(0, .a (fcsA d)), (3, .a (.v (.map (some b9)))), (10, .a (fcsA d)), (11, .a (.v (.int .i64 ((d.map FC.cs).length)))), (12, .a (.v (.int .i64 ((k : Int))))), (74, .a (strsA (namesC x))), (75, .a (.v (.int .i64 (((namesC x).map (fun s : ByteArray => [AV.v (.string s)])).length)))), (76, .a (.v (.int .i64 ((j : Int)))))], [⟨b9, true, .map (encM Value.string boolA m2)⟩]⟩ ∧ nn0 = (namesC x).length - j ∧ (j ≤ (namesC x).length) ∧ (((d.take k).flatMap namesC ++ (namesC x).take j).Nodup) ∧ (HasS m2 ((d.take k).flatMap namesC ++ (namesC x).take j))) ((namesC x).length - (0)) ⟨87, [(0, .a (fcsA d)), (3, .a (.v (.map (some b9)))), (10, .a (fcsA d)), (11, .a (.v (.int .i64 ((d.map FC.cs).length)))), (12, .a (.v (.int .i64 ((k : Int))))), (74, .a (strsA (namesC x))), (75, .a (.v (.int .i64 (((namesC x).map (fun s : ByteArray => [AV.v (.string s)])).length)))), (76, .a (.v (.int .i64 (((0) : Int)))))], [⟨b9, true, .map (encM Value.string boolA (m))⟩]⟩ ⟨rfl, (Slots.cons rfl (by first | exact .refl _ | exact .nilOwn _ _ | exact .nilSl _ | exact .ownSl _ _ _  | exact SV.le.ownEq (by first | rfl | (rw [hns]; rfl) | (rw [hns]; simp [chunks])) | exact SV.le.of_eq (by first | rfl | (rw [hns]; rfl) | (rw [hns]; simp [chunks]))) (Slots.cons rfl (by first | exact .refl _ | exact .nilOwn _ _ | exact .nilSl _ | exact .ownSl _ _ _  | exact SV.le.ownEq (by first | rfl | (rw [hns]; rfl) | (rw [hns]; simp [chunks])) | exact SV.le.of_eq (by first | rfl | (rw [hns]; rfl) | (rw [hns]; simp [chunks]))) (Slots.cons rfl (by first | exact .refl _ | exact .nilOwn _ _ | exact .nilSl _ | exact .ownSl _ _ _  | exact SV.le.ownEq (by first | rfl | (rw [hns]; rfl) | (rw [hns]; simp [chunks])) | exact SV.le.of_eq (by first | rfl | (rw [hns]; rfl) | (rw [hns]; simp [chunks]))) (Slots.cons rfl (by first | exact .refl _ | exact .nilOwn _ _ | exact .nilSl _ | exact .ownSl _ _ _  | exact SV.le.ownEq (by first | rfl | (rw [hns]; rfl) | (rw [hns]; simp [chunks])) | exact SV.le.of_eq (by first | rfl | (rw [hns]; rfl) | (rw [hns]; simp [chunks]))) (Slots.cons rfl (by first | exact .refl _ | exact .nilOwn _ _ | exact .nilSl _ | exact .ownSl _ _ _  | exact SV.le.ownEq (by first | rfl | (rw [hns]; rfl) | (rw [hns]; simp [chunks])) | exact SV.le.of_eq (by first | rfl | (rw [hns]; rfl) | (rw [hns]; simp [chunks]))) (Slots.cons rfl (by first | exact .refl _ | exact .nilOwn _ _ | exact .nilSl _ | exact .ownSl _ _ _  | exact SV.le.ownEq (by first | rfl | (rw [hns]; rfl) | (rw [hns]; simp [chunks])) | exact SV.le.of_eq (by first | rfl | (rw [hns]; rfl) | (rw [hns]; simp [chunks]))) (Slots.cons rfl (by first | exact .refl _ | exact .nilOwn _ _ | exact .nilSl _ | exact .ownSl _ _ _  | exact SV.le.ownEq (by first | rfl | (rw [hns]; rfl) | (rw [hns]; simp [chunks])) | exact SV.le.of_eq (by first | rfl | (rw [hns]; rfl) | (rw [hns]; simp [chunks]))) (Slots.cons rfl (by first | exact .refl _ | exact .nilOwn _ _ | exact .nilSl _ | exact .ownSl _ _ _  | exact SV.le.ownEq (by first | rfl | (rw [hns]; rfl) | (rw [hns]; simp [chunks])) | exact SV.le.of_eq (by first | rfl | (rw [hns]; rfl) | (rw [hns]; simp [chunks]))) Slots.nil)))))))), (by first | exact List.Sublist.refl _ | exact .cons_cons _ (.cons _ (.refl _)) | exact List.nil_sublist _ | exact .cons _ (.refl _) | exact .cons _ (.cons _ (.refl _)) | exact .cons _ (.cons _ (.cons _ (.refl _))) | exact .cons _ (.cons _ (.cons _ (.cons _ (.refl _)))) | exact .cons_cons _ (List.nil_sublist _))⟩ ⟨0, m, rfl, rfl, Nat.zero_le _, (by simpa using hnd), (by simpa using hm)⟩ ?_
            rintro nn0 _ ⟨j, m2, rfl, rfl, hj, hn2, hm2⟩
            refine awp_seq ?_
            refine awp_region ?_
            refine r_cmp rfl rfl rfl rfl ?_
            refine awl_nil ?_
            refine x_then ?_
            refine awp_seq ?_
            refine awp_cond rfl (fun hc4 => ?_) (fun hc4 => ?_)
            ·
              have hlts : j < (namesC x).length := by have := of_decide_eq_true hc4; rw [List.length_map] at this; omega
              obtain ⟨s, hs⟩ := get_lt hlts
              refine awp_skip ?_
              refine x_then ?_
              refine awp_seq ?_
              refine awp_block ?_
              refine awp_seq ?_
              refine awp_region ?_
              refine r_index rfl rfl rfl TF.sl57 TF.sz9 (by omega) (get_map hs) rfl ?_
              first | (refine r_load1b 0 rfl rfl rfl TF.agg9 rfl ?_) | (refine r_load1 rfl TF.agg9 rfl ?_)
              refine r_assign rfl rfl ?_
              refine awl_nil ?_
              refine x_then ?_
              refine awp_seq ?_
              refine awp_seq ?_
              refine awp_region ?_
              refine r_move rfl rfl ?_
              refine r_move rfl rfl ?_
              refine r_lookup 0 (keyEnc_string TF.un9) (ev := boolA) false rfl rfl rfl TF.map70 TF.zav4 rfl ?_
              refine awl_nil ?_
              refine x_then ?_
              refine awp_cond rfl (fun hc5 => ?_) (fun hc5 => ?_)
              ·
                refine awp_seq ?_
                refine awp_region ?_
                refine r_assign rfl rfl ?_
                refine awl_nil ?_
                refine x_then ?_
                refine awp_ret ?_
                refine x_thenR ?_
                refine x_blockR ?_
                refine x_thenR ?_
                refine x_thenR ?_
                refine x_blockR ?_
                refine x_blockR ?_
                refine x_thenR ?_
                refine x_thenR ?_
                refine x_blockR ?_
                refine x_thenR ?_
                exact ⟨(.inl rfl), _, [], (.one (by first | exact .mk rfl rfl | exact .nil rfl)), ⟨rfl, by first | (rw [right_bad hltx hbad]; rfl) | (rw [right_dup hx hs ((hm2 s).1 hc5)]; rfl) | (rw [right_good (fun i hi => hall i (by omega)) hnd]; rfl)⟩, (List.nil_sublist _), (by simp)⟩
              ·
                refine awp_skip ?_
                refine x_then ?_
                refine awp_region ?_
                refine r_move rfl rfl ?_
                refine r_move rfl rfl ?_
                refine r_mapUpdate 0 (keyEnc_string TF.un9) (ev := boolA) true rfl rfl rfl rfl rfl TF.map70 ?_
                refine awl_nil ?_
                refine x_block ?_
                refine x_then ?_
                refine awp_region ?_
                refine r_ari _ rfl rfl rfl (wrap_id (by first | omega | (simp; omega))) rfl ?_
                refine r_move rfl rfl ?_
                refine awl_nil ?_
                refine x_then ?_
                refine ⟨(namesC x).length - (j + 1), ⟨87, [(0, .a (fcsA d)), (3, .a (.v (.map (some b9)))), (10, .a (fcsA d)), (11, .a (.v (.int .i64 ((d.map FC.cs).length)))), (12, .a (.v (.int .i64 ((k : Int))))), (74, .a (strsA (namesC x))), (75, .a (.v (.int .i64 (((namesC x).map (fun s : ByteArray => [AV.v (.string s)])).length)))), (76, .a (.v (.int .i64 (((j + 1) : Int)))))], [⟨b9, true, .map (encM Value.string boolA ((mset m2 s true)))⟩]⟩, ⟨rfl, (Slots.cons rfl (by first | exact .refl _ | exact .nilOwn _ _ | exact .nilSl _ | exact .ownSl _ _ _  | exact SV.le.of_eq (by simp)) (Slots.cons rfl (by first | exact .refl _ | exact .nilOwn _ _ | exact .nilSl _ | exact .ownSl _ _ _  | exact SV.le.of_eq (by simp)) (Slots.cons rfl (by first | exact .refl _ | exact .nilOwn _ _ | exact .nilSl _ | exact .ownSl _ _ _  | exact SV.le.of_eq (by simp)) (Slots.cons rfl (by first | exact .refl _ | exact .nilOwn _ _ | exact .nilSl _ | exact .ownSl _ _ _  | exact SV.le.of_eq (by simp)) (Slots.cons rfl (by first | exact .refl _ | exact .nilOwn _ _ | exact .nilSl _ | exact .ownSl _ _ _  | exact SV.le.of_eq (by simp)) (Slots.cons rfl (by first | exact .refl _ | exact .nilOwn _ _ | exact .nilSl _ | exact .ownSl _ _ _  | exact SV.le.of_eq (by simp)) (Slots.cons rfl (by first | exact .refl _ | exact .nilOwn _ _ | exact .nilSl _ | exact .ownSl _ _ _  | exact SV.le.of_eq (by simp)) (Slots.cons rfl (by first | exact .refl _ | exact .nilOwn _ _ | exact .nilSl _ | exact .ownSl _ _ _  | exact SV.le.of_eq (by simp)) Slots.nil)))))))), (by first | exact List.Sublist.refl _ | exact .cons_cons _ (.cons _ (.refl _)) | exact List.nil_sublist _ | exact .cons _ (.refl _) | exact .cons _ (.cons _ (.refl _)) | exact .cons _ (.cons _ (.cons _ (.refl _))) | exact .cons _ (.cons _ (.cons _ (.cons _ (.refl _)))) | exact .cons_cons _ (List.nil_sublist _))⟩, (by omega), ⟨j + 1, (mset m2 s true), rfl, rfl, (by omega), (by rw [takeS hs, ← List.append_assoc]; exact nodup_snoc hn2 (fun h => by rw [(hm2 s).2 h] at hc5; cases hc5)), (by rw [takeS hs, ← List.append_assoc]; exact hasS_set hm2)⟩⟩
            ·
              have hge : (namesC x).length ≤ j := by have := of_decide_eq_false hc4; rw [List.length_map] at this; omega
              rw [List.take_of_length_le hge, ← names_take hx] at hn2 hm2
              refine awp_exit ?_
              refine x_thenE ?_
              refine x_thenE ?_
              refine x_blockE ?_
              refine x_block ?_
              refine x_then ?_
              refine awp_region ?_
              refine r_ari _ rfl rfl rfl (wrap_id (by first | omega | (simp; omega))) rfl ?_
              refine r_move rfl rfl ?_
              refine awl_nil ?_
              refine x_then ?_
              refine ⟨d.length - (k + 1), ⟨87, [(0, .a (fcsA d)), (3, .a (.v (.map (some b9)))), (10, .a (fcsA d)), (11, .a (.v (.int .i64 ((d.map FC.cs).length)))), (12, .a (.v (.int .i64 (((k + 1) : Int)))))], [⟨b9, true, .map (encM Value.string boolA (m2))⟩]⟩, ⟨rfl, (Slots.cons rfl (by first | exact .refl _ | exact .nilOwn _ _ | exact .nilSl _ | exact .ownSl _ _ _  | exact SV.le.of_eq (by simp)) (Slots.cons rfl (by first | exact .refl _ | exact .nilOwn _ _ | exact .nilSl _ | exact .ownSl _ _ _  | exact SV.le.of_eq (by simp)) (Slots.cons rfl (by first | exact .refl _ | exact .nilOwn _ _ | exact .nilSl _ | exact .ownSl _ _ _  | exact SV.le.of_eq (by simp)) (Slots.cons rfl (by first | exact .refl _ | exact .nilOwn _ _ | exact .nilSl _ | exact .ownSl _ _ _  | exact SV.le.of_eq (by simp)) (Slots.cons rfl (by first | exact .refl _ | exact .nilOwn _ _ | exact .nilSl _ | exact .ownSl _ _ _  | exact SV.le.of_eq (by simp)) Slots.nil))))), (by first | exact List.Sublist.refl _ | exact .cons_cons _ (.cons _ (.refl _)) | exact List.nil_sublist _ | exact .cons _ (.refl _) | exact .cons _ (.cons _ (.refl _)) | exact .cons _ (.cons _ (.cons _ (.refl _))) | exact .cons _ (.cons _ (.cons _ (.cons _ (.refl _)))) | exact .cons_cons _ (List.nil_sublist _))⟩, (by omega), ⟨k + 1, m2, rfl, rfl, (by omega), (fun i hi => by rcases Nat.lt_succ_iff_lt_or_eq.1 hi with h | rfl; exact hall i h; exact hgood), hn2, hm2⟩⟩
  ·
    have hge : d.length ≤ k := by have := of_decide_eq_false hc0; simp at this; omega
    rw [List.take_of_length_le hge] at hnd
    refine awp_exit ?_
    refine x_thenE ?_
    refine x_thenE ?_
    refine x_blockE ?_
    refine x_then ?_
    refine awp_seq ?_
    refine awp_region ?_
    refine r_assign rfl rfl ?_
    refine awl_nil ?_
    refine x_then ?_
    refine awp_ret ?_
    exact ⟨(.inl rfl), _, [], (.one (by first | exact .mk rfl rfl | exact .nil rfl)), ⟨rfl, by first | (rw [right_bad hltx hbad]; rfl) | (rw [right_dup hx hs ((hm2 s).1 hc5)]; rfl) | (rw [right_good (fun i hi => hall i (by omega)) hnd]; rfl)⟩, (List.nil_sublist _), (by simp)⟩

end Go.Proofs.Ytnbnegkdbjdekaa.A

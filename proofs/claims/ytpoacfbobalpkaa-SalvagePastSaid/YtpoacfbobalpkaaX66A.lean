/- Layer 66: walks of its small functions. -/
import Derived.Test.YtpoacfbobalpkaaProg
import Derived.KernelRfl
import Derived.Test.YtpoacfbobalpkaaX66S
namespace Go.Proofs.Ytpoacfbobalpkaa.A
open Go Go.RowKit
set_option linter.unusedVariables false
set_option linter.unusedSimpArgs false
set_option maxRecDepth 100000

theorem T.sl26 : sliceT Try.prog 26 = some 33 := by kernel_rfl
theorem T.sz33 : szT Try.prog 33 = some 4 := by kernel_rfl
theorem T.agg33 : aggT Try.prog 33 = some true := by kernel_rfl
theorem T.zero33 : ZeroT Try.prog 33 [.v (.string ⟨#[]⟩), .v (.int .u64 0), .v (.bool false), .sl 1 []] := ⟨[(.string ⟨#[]⟩), (.int .u64 0), (.bool false), (.slice none 0 0)], by kernel_rfl, (.cons (.refl _) (.cons (.refl _) (.cons (.refl _) (.cons (.nil 1) .nil))))⟩
theorem T.f33_0 : fieldT Try.prog 33 0 = some (0, 9) := by kernel_rfl
theorem T.sz9 : szT Try.prog 9 = some 1 := by kernel_rfl
theorem T.agg9 : aggT Try.prog 9 = some false := by kernel_rfl
theorem T.un9 : Try.prog.underlying 9 = some .string := by kernel_rfl
theorem T.map71 : mapT Try.prog 71 = some (9, 33) := by kernel_rfl
theorem T.zav33 : ZeroAV Try.prog 33 (.agg [.v (.string ⟨#[]⟩), .v (.int .u64 0), .v (.bool false), .sl 1 []]) := ⟨.agg [AV.v (.string ⟨#[]⟩), AV.v (.int .u64 0), AV.v (.bool false), AV.v (.slice none 0 0)], by kernel_rfl, .agg (.cons (.refl _) (.cons (.refl _) (.cons (.refl _) (.cons (.nil 1) .nil))))⟩
theorem T.f33_2 : fieldT Try.prog 33 2 = some (2, 4) := by kernel_rfl
theorem T.sz4 : szT Try.prog 4 = some 1 := by kernel_rfl
theorem T.agg4 : aggT Try.prog 4 = some false := by kernel_rfl
theorem T.sl31 : sliceT Try.prog 31 = some 5 := by kernel_rfl
theorem T.sz5 : szT Try.prog 5 = some 1 := by kernel_rfl
theorem T.zraw5 : zeroT Try.prog 5 = some [(.int .u8 0)] := by kernel_rfl
theorem T.by5 : bytesT Try.prog 5 = some 1 := by kernel_rfl
theorem T.zlen5 : (zeroT Try.prog 5).map (·.length) = some 1 := by kernel_rfl
theorem T.agg5 : aggT Try.prog 5 = some false := by kernel_rfl
theorem T.sl22 : sliceT Try.prog 22 = some 57 := by kernel_rfl
theorem T.sz57 : szT Try.prog 57 = some 3 := by kernel_rfl
theorem T.f57_0 : fieldT Try.prog 57 0 = some (0, 30) := by kernel_rfl
theorem T.sz30 : szT Try.prog 30 = some 1 := by kernel_rfl
theorem T.agg30 : aggT Try.prog 30 = some false := by kernel_rfl
theorem T.sl44 : sliceT Try.prog 44 = some 51 := by kernel_rfl
theorem T.sz51 : szT Try.prog 51 = some 2 := by kernel_rfl
theorem T.f51_0 : fieldT Try.prog 51 0 = some (0, 9) := by kernel_rfl

theorem chosen_ok (l : List Choice) (hl : l.length ≤ 1000000) :
    AC Try.prog 37 [choicesA l] [] (fun r n => ∃ b, r = .v (.map (some b)) ∧ n = [⟨b, true, .map (encM Value.string Choice.av (chosen l))⟩]) := by
  refine ac_of_awp (rs := [2]) (nt := 34) Try.func37 rfl rfl rfl rfl (fun w0 C0 => ?_)
  refine awp_seq ?_
  refine awp_region ?_
  refine r_assign rfl rfl ?_
  refine awl_nil ?_
  refine x_then ?_
  refine awp_seq ?_
  refine awp_region ?_
  refine r_makeMap (ek := Value.string) (ev := Choice.av) [] rfl rfl (fun b8 => ?_)
  refine r_assign rfl rfl ?_
  refine awl_nil ?_
  refine x_then ?_
  refine awp_seq ?_
  refine awp_seq ?_
  refine awp_region ?_
  refine r_move rfl rfl ?_
  first | (refine r_lenS rfl rfl T.sl26 rfl ?_) | (refine r_lenNil rfl T.sl26 rfl ?_)
  refine r_move rfl rfl ?_
  refine awl_nil ?_
  refine x_then ?_
  refine awp_block ?_
  refine awp_loop (fun nn0 S => ∃ k : Nat, S = ⟨34, [(3, .a (.v (.map (some b8)))), (9, .a (choicesA l)), (10, .a (.v (.int .i64 (l.map Choice.cs).length))), (11, .a (.v (.int .i64 ((k : Int)))))], [⟨b8, true, .map (encM Value.string Choice.av (chosen (l.take k)))⟩]⟩ ∧ nn0 = l.length - k ∧ (k ≤ l.length)) (l.length - (0)) ⟨34, [(3, .a (.v (.map (some b8)))), (9, .a (choicesA l)), (10, .a (.v (.int .i64 (l.map Choice.cs).length))), (11, .a (.v (.int .i64 (((0) : Int)))))], [⟨b8, true, .map (encM Value.string Choice.av (chosen (l.take (0))))⟩]⟩ ⟨rfl, (Slots.cons rfl (by first | exact .refl _ | exact .nilOwn _ _ | exact .nilSl _ | exact .ownSl _ _ _ | exact SV.le.of_eq (by simp)) (Slots.cons rfl (by first | exact .refl _ | exact .nilOwn _ _ | exact .nilSl _ | exact .ownSl _ _ _ | exact SV.le.of_eq (by simp)) (Slots.cons rfl (by first | exact .refl _ | exact .nilOwn _ _ | exact .nilSl _ | exact .ownSl _ _ _ | exact SV.le.of_eq (by simp)) (Slots.cons rfl (by first | exact .refl _ | exact .nilOwn _ _ | exact .nilSl _ | exact .ownSl _ _ _ | exact SV.le.of_eq (by simp)) Slots.nil)))), (by first | exact List.Sublist.refl _ | exact List.nil_sublist _ | exact .cons _ (.refl _) | exact .cons _ (.cons _ (.refl _)) | exact .cons _ (.cons _ (.cons _ (.refl _))) | exact .cons _ (.cons _ (.cons _ (.cons _ (.refl _)))) | exact .cons_cons _ (List.nil_sublist _))⟩ ⟨0, rfl, rfl, Nat.zero_le _⟩ ?_
  rintro nn0 _ ⟨k, rfl, rfl, hk⟩
  refine awp_seq ?_
  refine awp_region ?_
  refine r_cmp rfl rfl rfl rfl ?_
  refine awl_nil ?_
  refine x_then ?_
  refine awp_seq ?_
  refine awp_cond rfl (fun hc0 => ?_) (fun hc0 => ?_)
  ·
    have hlt : k < l.length := by have := of_decide_eq_true hc0; simpa using this
    obtain ⟨x, hx⟩ := get_lt hlt
    refine awp_skip ?_
    refine x_then ?_
    refine awp_seq ?_
    refine awp_block ?_
    refine awp_seq ?_
    refine awp_region ?_
    refine r_index rfl rfl rfl T.sl26 T.sz33 (by omega) (get_map hx) rfl ?_
    first | (refine r_loadA rfl T.agg33 T.sz33 rfl rfl ?_) | (refine r_loadAb 0 rfl rfl T.agg33 T.sz33 rfl rfl ?_)
    refine r_alloc T.zero33 rfl (fun b5 => ?_)
    first | (refine r_store 0 rfl rfl rfl T.sz33 rfl rfl rfl ?_) | (refine r_store 1 rfl rfl rfl T.sz33 rfl rfl rfl ?_)
    refine awl_nil ?_
    refine x_then ?_
    refine awp_seq ?_
    refine awp_region ?_
    refine r_move rfl rfl ?_
    first | (refine r_fieldcp rfl T.f33_0 T.sz9 rfl ?_) | (refine r_fieldb rfl T.f33_0 T.sz9 rfl ?_)
    first | (refine r_load1 rfl T.agg9 rfl ?_) | (refine r_load1b 0 rfl rfl rfl T.agg9 rfl ?_) | (refine r_load1b 1 rfl rfl rfl T.agg9 rfl ?_)
    first | (refine r_lookupOk 0 (keyEnc_string T.un9) (ev := Choice.av) Choice.zero rfl rfl rfl T.map71 T.zav33 rfl ?_) | (refine r_lookupOk 1 (keyEnc_string T.un9) (ev := Choice.av) Choice.zero rfl rfl rfl T.map71 T.zav33 rfl ?_)
    refine r_move rfl rfl ?_
    refine r_extract rfl rfl rfl ?_
    refine r_extract rfl rfl rfl ?_
    refine r_alloc T.zero33 rfl (fun b6 => ?_)
    first | (refine r_store 0 rfl rfl rfl T.sz33 rfl rfl rfl ?_) | (refine r_store 1 rfl rfl rfl T.sz33 rfl rfl rfl ?_) | (refine r_store 2 rfl rfl rfl T.sz33 rfl rfl rfl ?_)
    refine r_assign rfl rfl ?_
    refine awl_nil ?_
    refine x_then ?_
    refine awp_seq ?_
    refine awp_region ?_
    refine r_move rfl rfl ?_
    refine r_not rfl rfl ?_
    refine r_move rfl rfl ?_
    refine g_cases (t' := 24) rfl (fun hg24 => ?_) (fun hg24 => ?_)
    ·
      refine g_run rfl rfl hg24 ?_
      first | (refine r_fieldcp rfl T.f33_2 T.sz4 rfl ?_) | (refine r_fieldb rfl T.f33_2 T.sz4 rfl ?_)
      refine g_run rfl rfl hg24 ?_
      first | (refine r_load1 rfl T.agg4 rfl ?_) | (refine r_load1b 0 rfl rfl rfl T.agg4 rfl ?_) | (refine r_load1b 1 rfl rfl rfl T.agg4 rfl ?_) | (refine r_load1b 2 rfl rfl rfl T.agg4 rfl ?_)
      refine r_pickT rfl hg24 rfl rfl ?_
      refine awl_nil ?_
      refine x_then ?_
      refine awp_cond rfl (fun hc1 => ?_) (fun hc1 => ?_)
      ·
        refine awp_region ?_
        refine r_move rfl rfl ?_
        first | (refine r_fieldcp rfl T.f33_0 T.sz9 rfl ?_) | (refine r_fieldb rfl T.f33_0 T.sz9 rfl ?_)
        first | (refine r_load1 rfl T.agg9 rfl ?_) | (refine r_load1b 0 rfl rfl rfl T.agg9 rfl ?_) | (refine r_load1b 1 rfl rfl rfl T.agg9 rfl ?_) | (refine r_load1b 2 rfl rfl rfl T.agg9 rfl ?_)
        first | (refine r_loadA rfl T.agg33 T.sz33 rfl rfl ?_) | (refine r_loadAb 0 rfl rfl T.agg33 T.sz33 rfl rfl ?_) | (refine r_loadAb 1 rfl rfl T.agg33 T.sz33 rfl rfl ?_) | (refine r_loadAb 2 rfl rfl T.agg33 T.sz33 rfl rfl ?_)
        first | (refine r_mapUpdate 0 (keyEnc_string T.un9) (ev := Choice.av) _ rfl rfl rfl rfl rfl T.map71 ?_) | (refine r_mapUpdate 1 (keyEnc_string T.un9) (ev := Choice.av) _ rfl rfl rfl rfl rfl T.map71 ?_) | (refine r_mapUpdate 2 (keyEnc_string T.un9) (ev := Choice.av) _ rfl rfl rfl rfl rfl T.map71 ?_)
        refine awl_nil ?_
        refine x_block ?_
        refine x_then ?_
        refine awp_region ?_
        refine r_ari _ rfl rfl rfl (wrap_id (by omega)) rfl ?_
        refine r_move rfl rfl ?_
        refine awl_nil ?_
        refine x_then ?_
        have e : chosen (l.take (k + 1)) = stepC (chosen (l.take k)) x := fold_take hx
        simp only [stepC] at e
        first | simp only [hg24, hc1, Bool.true_and, Bool.false_and, cond_true, cond_false] at e | simp only [hg24, Bool.true_and, Bool.false_and, cond_true, cond_false] at e
        refine ⟨l.length - (k + 1), ⟨34, [(3, .a (.v (.map (some b8)))), (9, .a (choicesA l)), (10, .a (.v (.int .i64 (l.map Choice.cs).length))), (11, .a (.v (.int .i64 (((k + 1) : Int)))))], [⟨b8, true, .map (encM Value.string Choice.av (chosen (l.take (k + 1))))⟩]⟩, ⟨rfl, (Slots.cons rfl (by first | exact .refl _ | exact .nilOwn _ _ | exact .nilSl _ | exact .ownSl _ _ _ | exact SV.le.of_eq (by simp)) (Slots.cons rfl (by first | exact .refl _ | exact .nilOwn _ _ | exact .nilSl _ | exact .ownSl _ _ _ | exact SV.le.of_eq (by simp)) (Slots.cons rfl (by first | exact .refl _ | exact .nilOwn _ _ | exact .nilSl _ | exact .ownSl _ _ _ | exact SV.le.of_eq (by simp)) (Slots.cons rfl (by first | exact .refl _ | exact .nilOwn _ _ | exact .nilSl _ | exact .ownSl _ _ _ | exact SV.le.of_eq (by simp)) Slots.nil)))), (by rw [e]; first | exact List.Sublist.refl _ | exact List.nil_sublist _ | exact .cons _ (.refl _) | exact .cons _ (.cons _ (.refl _)) | exact .cons _ (.cons _ (.cons _ (.refl _))) | exact .cons _ (.cons _ (.cons _ (.cons _ (.refl _)))) | exact .cons_cons _ (List.nil_sublist _))⟩, (by omega), ⟨k + 1, rfl, rfl, (by have := (List.getElem?_eq_some_iff.1 hx).1; omega)⟩⟩
      ·
        refine awp_skip ?_
        refine x_block ?_
        refine x_then ?_
        refine awp_region ?_
        refine r_ari _ rfl rfl rfl (wrap_id (by omega)) rfl ?_
        refine r_move rfl rfl ?_
        refine awl_nil ?_
        refine x_then ?_
        have e : chosen (l.take (k + 1)) = stepC (chosen (l.take k)) x := fold_take hx
        simp only [stepC] at e
        first | simp only [hg24, hc1, Bool.true_and, Bool.false_and, cond_true, cond_false] at e | simp only [hg24, Bool.true_and, Bool.false_and, cond_true, cond_false] at e
        refine ⟨l.length - (k + 1), ⟨34, [(3, .a (.v (.map (some b8)))), (9, .a (choicesA l)), (10, .a (.v (.int .i64 (l.map Choice.cs).length))), (11, .a (.v (.int .i64 (((k + 1) : Int)))))], [⟨b8, true, .map (encM Value.string Choice.av (chosen (l.take (k + 1))))⟩]⟩, ⟨rfl, (Slots.cons rfl (by first | exact .refl _ | exact .nilOwn _ _ | exact .nilSl _ | exact .ownSl _ _ _ | exact SV.le.of_eq (by simp)) (Slots.cons rfl (by first | exact .refl _ | exact .nilOwn _ _ | exact .nilSl _ | exact .ownSl _ _ _ | exact SV.le.of_eq (by simp)) (Slots.cons rfl (by first | exact .refl _ | exact .nilOwn _ _ | exact .nilSl _ | exact .ownSl _ _ _ | exact SV.le.of_eq (by simp)) (Slots.cons rfl (by first | exact .refl _ | exact .nilOwn _ _ | exact .nilSl _ | exact .ownSl _ _ _ | exact SV.le.of_eq (by simp)) Slots.nil)))), (by rw [e]; first | exact List.Sublist.refl _ | exact List.nil_sublist _ | exact .cons _ (.refl _) | exact .cons _ (.cons _ (.refl _)) | exact .cons _ (.cons _ (.cons _ (.refl _))) | exact .cons _ (.cons _ (.cons _ (.cons _ (.refl _)))) | exact .cons_cons _ (List.nil_sublist _))⟩, (by omega), ⟨k + 1, rfl, rfl, (by have := (List.getElem?_eq_some_iff.1 hx).1; omega)⟩⟩
    ·
      refine g_skip rfl rfl hg24 rfl ?_
      refine g_skip rfl rfl hg24 rfl ?_
      refine r_pickF rfl hg24 rfl rfl ?_
      refine awl_nil ?_
      refine x_then ?_
      refine awp_condF rfl ?_
      refine awp_skip ?_
      refine x_block ?_
      refine x_then ?_
      refine awp_region ?_
      refine r_ari _ rfl rfl rfl (wrap_id (by omega)) rfl ?_
      refine r_move rfl rfl ?_
      refine awl_nil ?_
      refine x_then ?_
      have e : chosen (l.take (k + 1)) = stepC (chosen (l.take k)) x := fold_take hx
      simp only [stepC] at e
      first | simp only [hg24, hc1, Bool.true_and, Bool.false_and, cond_true, cond_false] at e | simp only [hg24, Bool.true_and, Bool.false_and, cond_true, cond_false] at e
      refine ⟨l.length - (k + 1), ⟨34, [(3, .a (.v (.map (some b8)))), (9, .a (choicesA l)), (10, .a (.v (.int .i64 (l.map Choice.cs).length))), (11, .a (.v (.int .i64 (((k + 1) : Int)))))], [⟨b8, true, .map (encM Value.string Choice.av (chosen (l.take (k + 1))))⟩]⟩, ⟨rfl, (Slots.cons rfl (by first | exact .refl _ | exact .nilOwn _ _ | exact .nilSl _ | exact .ownSl _ _ _ | exact SV.le.of_eq (by simp)) (Slots.cons rfl (by first | exact .refl _ | exact .nilOwn _ _ | exact .nilSl _ | exact .ownSl _ _ _ | exact SV.le.of_eq (by simp)) (Slots.cons rfl (by first | exact .refl _ | exact .nilOwn _ _ | exact .nilSl _ | exact .ownSl _ _ _ | exact SV.le.of_eq (by simp)) (Slots.cons rfl (by first | exact .refl _ | exact .nilOwn _ _ | exact .nilSl _ | exact .ownSl _ _ _ | exact SV.le.of_eq (by simp)) Slots.nil)))), (by rw [e]; first | exact List.Sublist.refl _ | exact List.nil_sublist _ | exact .cons _ (.refl _) | exact .cons _ (.cons _ (.refl _)) | exact .cons _ (.cons _ (.cons _ (.refl _))) | exact .cons _ (.cons _ (.cons _ (.cons _ (.refl _)))) | exact .cons_cons _ (List.nil_sublist _))⟩, (by omega), ⟨k + 1, rfl, rfl, (by have := (List.getElem?_eq_some_iff.1 hx).1; omega)⟩⟩
  ·
    have hge : l.length ≤ k := by have := of_decide_eq_false hc0; simp at this; omega
    have hkl : l.take k = l := List.take_of_length_le hge
    refine awp_exit ?_
    refine x_thenE ?_
    refine x_thenE ?_
    refine x_blockE ?_
    refine x_then ?_
    refine awp_seq ?_
    refine awp_region ?_
    refine r_move rfl rfl ?_
    refine r_assign rfl rfl ?_
    refine awl_nil ?_
    refine x_then ?_
    refine awp_ret ?_
    exact ⟨(.inl rfl), _, [⟨b8, true, .map (encM Value.string Choice.av (chosen l))⟩], (.one (by first | exact .mk rfl rfl | exact .nil rfl)), ⟨b8, rfl, rfl⟩, (by rw [hkl]; first | exact List.Sublist.refl _ | exact List.nil_sublist _ | exact .cons _ (.refl _) | exact .cons _ (.cons _ (.refl _)) | exact .cons _ (.cons _ (.cons _ (.refl _))) | exact .cons _ (.cons _ (.cons _ (.cons _ (.refl _)))) | exact .cons_cons _ (List.nil_sublist _)), (by simp)⟩

theorem clone_ok (l : List UInt8) (hl : l.length ≤ 1000000) : AC Try.prog 30 [bts l] [] (fun r n => n = [] ∧ r = bts l) := by
  refine ac_of_awp (rs := [2]) (nt := 8) Try.func30 rfl rfl rfl rfl (fun w0 C0 => ?_)
  refine awp_seq ?_
  refine awp_region ?_
  refine r_assign rfl rfl ?_
  refine awl_nil ?_
  refine x_then ?_
  refine awp_seq ?_
  refine awp_seq ?_
  refine awp_region ?_
  refine r_move rfl rfl ?_
  refine r_slnil rfl rfl T.sl31 rfl (fun b4 hb4 => ?_)
  refine awl_nil ?_
  refine x_then ?_
  refine awp_cond rfl (fun hc0 => ?_) (fun hc0 => ?_)
  ·
    obtain rfl : l = [] := by simpa [u8s] using hb4 hc0
    refine awp_seq ?_
    refine awp_region ?_
    refine r_assign rfl rfl ?_
    refine awl_nil ?_
    refine x_then ?_
    refine awp_ret ?_
    refine x_thenR ?_
    exact ⟨(.inl rfl), _, [], (.one (by first | exact .mk rfl rfl | exact .nil rfl)), ⟨rfl, rfl⟩, (List.nil_sublist _), (by simp)⟩
  ·
    refine awp_skip ?_
    refine x_then ?_
    refine awp_seq ?_
    refine awp_region ?_
    refine r_lit 5 (parts := []) rfl T.sl31 T.sz5 T.zraw5 rfl rfl rfl rfl rfl rfl rfl ?_
    refine r_move rfl rfl ?_
    refine r_append 5 rfl (by first | exact .own _ | exact .nil) rfl (by first | exact .sl _ | exact .own _ _ | exact .nil) T.sl31 T.sz5 (by decide) T.by5 T.zlen5 (by simp [chunks, u8s]; omega) (by simp [chunks, u8s]; omega) rfl ?_
    refine r_assign rfl rfl ?_
    refine awl_nil ?_
    refine x_then ?_
    refine awp_ret ?_
    exact ⟨(.inl rfl), _, [], (.one (by first | exact .mk rfl rfl | exact .nil rfl)), ⟨rfl, by first | rfl | simp [chunks, bts, SV.av]⟩, (List.nil_sublist _), (by simp)⟩

theorem sclone_ok (l : List UInt8) (hl : l.length ≤ 1000000) : AC Try.prog 44 [bts l] [] (fun r n => n = [] ∧ r = bts l) := by
  refine ac_of_awp (rs := [2]) (nt := 8) Try.func44 rfl rfl rfl rfl (fun w0 C0 => ?_)
  refine awp_seq ?_
  refine awp_region ?_
  refine r_assign rfl rfl ?_
  refine awl_nil ?_
  refine x_then ?_
  refine awp_seq ?_
  refine awp_seq ?_
  refine awp_region ?_
  refine r_move rfl rfl ?_
  refine r_slnil rfl rfl T.sl31 rfl (fun b4 hb4 => ?_)
  refine awl_nil ?_
  refine x_then ?_
  refine awp_cond rfl (fun hc0 => ?_) (fun hc0 => ?_)
  ·
    obtain rfl : l = [] := by simpa [u8s] using hb4 hc0
    refine awp_seq ?_
    refine awp_region ?_
    refine r_assign rfl rfl ?_
    refine awl_nil ?_
    refine x_then ?_
    refine awp_ret ?_
    refine x_thenR ?_
    exact ⟨(.inl rfl), _, [], (.one (by first | exact .mk rfl rfl | exact .nil rfl)), ⟨rfl, rfl⟩, (List.nil_sublist _), (by simp)⟩
  ·
    refine awp_skip ?_
    refine x_then ?_
    refine awp_seq ?_
    refine awp_region ?_
    refine r_lit 5 (parts := []) rfl T.sl31 T.sz5 T.zraw5 rfl rfl rfl rfl rfl rfl rfl ?_
    refine r_move rfl rfl ?_
    refine r_append 5 rfl (by first | exact .own _ | exact .nil) rfl (by first | exact .sl _ | exact .own _ _ | exact .nil) T.sl31 T.sz5 (by decide) T.by5 T.zlen5 (by simp [chunks, u8s]; omega) (by simp [chunks, u8s]; omega) rfl ?_
    refine r_assign rfl rfl ?_
    refine awl_nil ?_
    refine x_then ?_
    refine awp_ret ?_
    exact ⟨(.inl rfl), _, [], (.one (by first | exact .mk rfl rfl | exact .nil rfl)), ⟨rfl, by first | rfl | simp [chunks, bts, SV.av]⟩, (List.nil_sublist _), (by simp)⟩

theorem whole_ok (l : List UInt8) (not : Int) (hl : l.length ≤ 1000000) : AC Try.prog 21 [bts l, u8A not] [] (fun r n => n = [] ∧ r = boolA (wholeB not l)) := by
  refine ac_of_awp (rs := [4]) (nt := 15) Try.func21 rfl rfl rfl rfl (fun w0 C0 => ?_)
  refine awp_seq ?_
  refine awp_region ?_
  refine r_assign rfl rfl ?_
  refine awl_nil ?_
  refine x_then ?_
  refine awp_seq ?_
  refine awp_region ?_
  refine r_move rfl rfl ?_
  first | (refine r_lenS rfl rfl T.sl31 rfl ?_) | (refine r_lenNil rfl T.sl31 rfl ?_)
  refine r_cmp rfl rfl rfl rfl ?_
  refine r_move rfl rfl ?_
  refine g_cases (t' := 8) rfl (fun hg8 => ?_) (fun hg8 => ?_)
  ·
    have hlt : 0 < l.length := by have := of_decide_eq_true hg8; simpa [u8s] using this
    obtain ⟨x, hx⟩ := get_lt hlt
    refine g_run rfl rfl hg8 ?_
    refine r_move rfl rfl ?_
    refine g_run rfl rfl hg8 ?_
    refine r_index rfl rfl rfl T.sl31 T.sz5 (by omega) (get_map hx) rfl ?_
    refine g_run rfl rfl hg8 ?_
    refine r_load1 rfl T.agg5 rfl ?_
    refine g_run rfl rfl hg8 ?_
    refine r_move rfl rfl ?_
    refine g_run rfl rfl hg8 ?_
    refine r_cmp rfl rfl rfl rfl ?_
    refine r_pickT rfl hg8 rfl rfl ?_
    refine r_assign rfl rfl ?_
    refine awl_nil ?_
    refine x_then ?_
    refine awp_ret ?_
    exact ⟨(.inl rfl), _, [], (.one (by first | exact .mk rfl rfl | exact .nil rfl)), ⟨rfl, by cases l with | nil => simp at hx | cons y ys => simp at hx; subst hx; rfl⟩, (List.nil_sublist _), (by simp)⟩
  ·
    have hge : l.length = 0 := by have := of_decide_eq_false hg8; simp [u8s] at this; simpa using this
    refine g_skip rfl rfl hg8 rfl ?_
    refine g_skip rfl rfl hg8 rfl ?_
    refine g_skip rfl rfl hg8 rfl ?_
    refine g_skip rfl rfl hg8 rfl ?_
    refine g_skip rfl rfl hg8 rfl ?_
    refine r_pickF rfl hg8 rfl rfl ?_
    refine r_assign rfl rfl ?_
    refine awl_nil ?_
    refine x_then ?_
    refine awp_ret ?_
    exact ⟨(.inl rfl), _, [], (.one (by first | exact .mk rfl rfl | exact .nil rfl)), ⟨rfl, by cases l with | nil => rfl | cons y ys => simp at hge⟩, (List.nil_sublist _), (by simp)⟩

theorem at_ok (l : List Moment) (num : Int) (hl : l.length ≤ 1000000) : AC Try.prog 22 [momentsA l, .v (.int .u64 num)] [] (fun r n => n = [] ∧ r = .v (.int .i64 (optI (atM l num)))) := by
  refine ac_of_awp (rs := [4]) (nt := 20) Try.func22 rfl rfl rfl rfl (fun w0 C0 => ?_)
  refine awp_seq ?_
  refine awp_region ?_
  refine r_assign rfl rfl ?_
  refine awl_nil ?_
  refine x_then ?_
  refine awp_seq ?_
  refine awp_seq ?_
  refine awp_region ?_
  refine r_assign rfl rfl ?_
  refine awl_nil ?_
  refine x_then ?_
  refine awp_block ?_
  refine awp_loop (fun nn0 S => ∃ k : Nat, S = ⟨20, [(0, .a (momentsA l)), (1, .a (.v (.int .u64 num))), (5, .a (.v (.int .i64 ((k : Int)))))], []⟩ ∧ nn0 = l.length - k ∧ (k ≤ l.length) ∧ ((l.take k).findIdx? (fun x => x.num == num) = none)) (l.length - (0)) ⟨20, [(0, .a (momentsA l)), (1, .a (.v (.int .u64 num))), (5, .a (.v (.int .i64 (((0) : Int)))))], []⟩ ⟨rfl, (Slots.cons rfl (by first | exact .refl _ | exact .nilOwn _ _ | exact .nilSl _ | exact .ownSl _ _ _ | exact SV.le.of_eq (by simp)) (Slots.cons rfl (by first | exact .refl _ | exact .nilOwn _ _ | exact .nilSl _ | exact .ownSl _ _ _ | exact SV.le.of_eq (by simp)) (Slots.cons rfl (by first | exact .refl _ | exact .nilOwn _ _ | exact .nilSl _ | exact .ownSl _ _ _ | exact SV.le.of_eq (by simp)) Slots.nil))), (by first | exact List.Sublist.refl _ | exact List.nil_sublist _ | exact .cons _ (.refl _) | exact .cons _ (.cons _ (.refl _)) | exact .cons _ (.cons _ (.cons _ (.refl _))) | exact .cons _ (.cons _ (.cons _ (.cons _ (.refl _)))) | exact .cons_cons _ (List.nil_sublist _))⟩ ⟨0, rfl, rfl, Nat.zero_le _, rfl⟩ ?_
  rintro nn0 _ ⟨k, rfl, rfl, hk, hno⟩
  refine awp_seq ?_
  refine awp_seq ?_
  refine awp_region ?_
  refine r_move rfl rfl ?_
  refine r_move rfl rfl ?_
  first | (refine r_lenS rfl rfl T.sl22 rfl ?_) | (refine r_lenNil rfl T.sl22 rfl ?_)
  refine r_cmp rfl rfl rfl rfl ?_
  refine awl_nil ?_
  refine x_then ?_
  refine awp_cond rfl (fun hc0 => ?_) (fun hc0 => ?_)
  ·
    have hlt : k < l.length := by have := of_decide_eq_true hc0; simpa using this
    obtain ⟨x, hx⟩ := get_lt hlt
    refine awp_skip ?_
    refine x_then ?_
    refine awp_seq ?_
    refine awp_block ?_
    refine awp_seq ?_
    refine awp_region ?_
    refine r_move rfl rfl ?_
    refine r_move rfl rfl ?_
    refine r_index rfl rfl rfl T.sl22 T.sz57 (by omega) (get_map hx) rfl ?_
    first | (refine r_fieldcp rfl T.f57_0 T.sz30 rfl ?_) | (refine r_fieldb rfl T.f57_0 T.sz30 rfl ?_)
    refine r_load1 rfl T.agg30 rfl ?_
    refine r_move rfl rfl ?_
    refine r_cmp rfl rfl rfl rfl ?_
    refine awl_nil ?_
    refine x_then ?_
    refine awp_cond rfl (fun hc1 => ?_) (fun hc1 => ?_)
    ·
      refine awp_seq ?_
      refine awp_region ?_
      refine r_move rfl rfl ?_
      refine r_assign rfl rfl ?_
      refine awl_nil ?_
      refine x_then ?_
      refine awp_ret ?_
      refine x_blockR ?_
      refine x_thenR ?_
      refine x_thenR ?_
      refine x_blockR ?_
      refine x_thenR ?_
      exact ⟨(.inl rfl), _, [], (.one (by first | exact .mk rfl rfl | exact .nil rfl)), ⟨rfl, by rw [atM, fidx_hit hx hc1 hno]; rfl⟩, (List.nil_sublist _), (by simp)⟩
    ·
      refine awp_skip ?_
      refine x_block ?_
      refine x_then ?_
      refine awp_region ?_
      refine r_move rfl rfl ?_
      refine r_ari _ rfl rfl rfl (wrap_id (by omega)) rfl ?_
      refine r_assign rfl rfl ?_
      refine awl_nil ?_
      refine x_then ?_
      refine ⟨l.length - (k + 1), ⟨20, [(0, .a (momentsA l)), (1, .a (.v (.int .u64 num))), (5, .a (.v (.int .i64 (((k + 1) : Int)))))], []⟩, ⟨rfl, (Slots.cons rfl (by first | exact .refl _ | exact .nilOwn _ _ | exact .nilSl _ | exact .ownSl _ _ _ | exact SV.le.of_eq (by simp)) (Slots.cons rfl (by first | exact .refl _ | exact .nilOwn _ _ | exact .nilSl _ | exact .ownSl _ _ _ | exact SV.le.of_eq (by simp)) (Slots.cons rfl (by first | exact .refl _ | exact .nilOwn _ _ | exact .nilSl _ | exact .ownSl _ _ _ | exact SV.le.of_eq (by simp)) Slots.nil))), (by first | exact List.Sublist.refl _ | exact List.nil_sublist _ | exact .cons _ (.refl _) | exact .cons _ (.cons _ (.refl _)) | exact .cons _ (.cons _ (.cons _ (.refl _))) | exact .cons _ (.cons _ (.cons _ (.cons _ (.refl _)))) | exact .cons_cons _ (List.nil_sublist _))⟩, (by omega), ⟨k + 1, rfl, rfl, (by have := (List.getElem?_eq_some_iff.1 hx).1; omega), (fidx_step hx hc1 hno)⟩⟩
  ·
    have hge : l.length ≤ k := by have := of_decide_eq_false hc0; simp at this; omega
    refine awp_exit ?_
    refine x_thenE ?_
    refine x_thenE ?_
    refine x_blockE ?_
    refine x_then ?_
    refine awp_seq ?_
    refine awp_region ?_
    refine r_assign rfl rfl ?_
    refine awl_nil ?_
    refine x_then ?_
    refine awp_ret ?_
    exact ⟨(.inl rfl), _, [], (.one (by first | exact .mk rfl rfl | exact .nil rfl)), ⟨rfl, by rw [atM, fidx_end hge hno]; rfl⟩, (List.nil_sublist _), (by simp)⟩

theorem find_ok (l : List File) (name : ByteArray) (hl : l.length ≤ 1000000) : AC Try.prog 35 [files l, strA name] [] (fun r n => n = [] ∧ r = .v (.int .i64 (optI (findF l name)))) := by
  refine ac_of_awp (rs := [4]) (nt := 20) Try.func35 rfl rfl rfl rfl (fun w0 C0 => ?_)
  refine awp_seq ?_
  refine awp_region ?_
  refine r_assign rfl rfl ?_
  refine awl_nil ?_
  refine x_then ?_
  refine awp_seq ?_
  refine awp_seq ?_
  refine awp_region ?_
  refine r_assign rfl rfl ?_
  refine awl_nil ?_
  refine x_then ?_
  refine awp_block ?_
  refine awp_loop (fun nn0 S => ∃ k : Nat, S = ⟨20, [(0, .a (files l)), (1, .a (strA name)), (5, .a (.v (.int .i64 ((k : Int)))))], []⟩ ∧ nn0 = l.length - k ∧ (k ≤ l.length) ∧ ((l.take k).findIdx? (fun x => decide (x.name = name)) = none)) (l.length - (0)) ⟨20, [(0, .a (files l)), (1, .a (strA name)), (5, .a (.v (.int .i64 (((0) : Int)))))], []⟩ ⟨rfl, (Slots.cons rfl (by first | exact .refl _ | exact .nilOwn _ _ | exact .nilSl _ | exact .ownSl _ _ _ | exact SV.le.of_eq (by simp)) (Slots.cons rfl (by first | exact .refl _ | exact .nilOwn _ _ | exact .nilSl _ | exact .ownSl _ _ _ | exact SV.le.of_eq (by simp)) (Slots.cons rfl (by first | exact .refl _ | exact .nilOwn _ _ | exact .nilSl _ | exact .ownSl _ _ _ | exact SV.le.of_eq (by simp)) Slots.nil))), (by first | exact List.Sublist.refl _ | exact List.nil_sublist _ | exact .cons _ (.refl _) | exact .cons _ (.cons _ (.refl _)) | exact .cons _ (.cons _ (.cons _ (.refl _))) | exact .cons _ (.cons _ (.cons _ (.cons _ (.refl _)))) | exact .cons_cons _ (List.nil_sublist _))⟩ ⟨0, rfl, rfl, Nat.zero_le _, rfl⟩ ?_
  rintro nn0 _ ⟨k, rfl, rfl, hk, hno⟩
  refine awp_seq ?_
  refine awp_seq ?_
  refine awp_region ?_
  refine r_move rfl rfl ?_
  refine r_move rfl rfl ?_
  first | (refine r_lenS rfl rfl T.sl44 rfl ?_) | (refine r_lenNil rfl T.sl44 rfl ?_)
  refine r_cmp rfl rfl rfl rfl ?_
  refine awl_nil ?_
  refine x_then ?_
  refine awp_cond rfl (fun hc0 => ?_) (fun hc0 => ?_)
  ·
    have hlt : k < l.length := by have := of_decide_eq_true hc0; simpa using this
    obtain ⟨x, hx⟩ := get_lt hlt
    refine awp_skip ?_
    refine x_then ?_
    refine awp_seq ?_
    refine awp_block ?_
    refine awp_seq ?_
    refine awp_region ?_
    refine r_move rfl rfl ?_
    refine r_move rfl rfl ?_
    refine r_index rfl rfl rfl T.sl44 T.sz51 (by omega) (get_map hx) rfl ?_
    first | (refine r_fieldcp rfl T.f51_0 T.sz9 rfl ?_) | (refine r_fieldb rfl T.f51_0 T.sz9 rfl ?_)
    refine r_load1 rfl T.agg9 rfl ?_
    refine r_move rfl rfl ?_
    refine r_str2 rfl rfl rfl rfl ?_
    refine awl_nil ?_
    refine x_then ?_
    refine awp_cond rfl (fun hc1 => ?_) (fun hc1 => ?_)
    ·
      refine awp_seq ?_
      refine awp_region ?_
      refine r_move rfl rfl ?_
      refine r_assign rfl rfl ?_
      refine awl_nil ?_
      refine x_then ?_
      refine awp_ret ?_
      refine x_blockR ?_
      refine x_thenR ?_
      refine x_thenR ?_
      refine x_blockR ?_
      refine x_thenR ?_
      exact ⟨(.inl rfl), _, [], (.one (by first | exact .mk rfl rfl | exact .nil rfl)), ⟨rfl, by rw [findF, fidx_hit hx hc1 hno]; rfl⟩, (List.nil_sublist _), (by simp)⟩
    ·
      refine awp_skip ?_
      refine x_block ?_
      refine x_then ?_
      refine awp_region ?_
      refine r_move rfl rfl ?_
      refine r_ari _ rfl rfl rfl (wrap_id (by omega)) rfl ?_
      refine r_assign rfl rfl ?_
      refine awl_nil ?_
      refine x_then ?_
      refine ⟨l.length - (k + 1), ⟨20, [(0, .a (files l)), (1, .a (strA name)), (5, .a (.v (.int .i64 (((k + 1) : Int)))))], []⟩, ⟨rfl, (Slots.cons rfl (by first | exact .refl _ | exact .nilOwn _ _ | exact .nilSl _ | exact .ownSl _ _ _ | exact SV.le.of_eq (by simp)) (Slots.cons rfl (by first | exact .refl _ | exact .nilOwn _ _ | exact .nilSl _ | exact .ownSl _ _ _ | exact SV.le.of_eq (by simp)) (Slots.cons rfl (by first | exact .refl _ | exact .nilOwn _ _ | exact .nilSl _ | exact .ownSl _ _ _ | exact SV.le.of_eq (by simp)) Slots.nil))), (by first | exact List.Sublist.refl _ | exact List.nil_sublist _ | exact .cons _ (.refl _) | exact .cons _ (.cons _ (.refl _)) | exact .cons _ (.cons _ (.cons _ (.refl _))) | exact .cons _ (.cons _ (.cons _ (.cons _ (.refl _)))) | exact .cons_cons _ (List.nil_sublist _))⟩, (by omega), ⟨k + 1, rfl, rfl, (by have := (List.getElem?_eq_some_iff.1 hx).1; omega), (fidx_step hx hc1 hno)⟩⟩
  ·
    have hge : l.length ≤ k := by have := of_decide_eq_false hc0; simp at this; omega
    refine awp_exit ?_
    refine x_thenE ?_
    refine x_thenE ?_
    refine x_blockE ?_
    refine x_then ?_
    refine awp_seq ?_
    refine awp_region ?_
    refine r_assign rfl rfl ?_
    refine awl_nil ?_
    refine x_then ?_
    refine awp_ret ?_
    exact ⟨(.inl rfl), _, [], (.one (by first | exact .mk rfl rfl | exact .nil rfl)), ⟨rfl, by rw [findF, fidx_end hge hno]; rfl⟩, (List.nil_sublist _), (by simp)⟩

end Go.Proofs.Ytpoacfbobalpkaa.A

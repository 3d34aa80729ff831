/- Layer 62: walks of the document's Of. -/
import Derived.Test.YtnbnegkdbjdekaaProg
import Derived.KernelRfl
import Derived.Test.YtnbnegkdbjdekaaX62F
import Derived.Test.YtnbnegkdbjdekaaX62U
namespace Go.Proofs.Ytnbnegkdbjdekaa.A
open Go Go.RowKit
set_option linter.unusedVariables false
set_option linter.unusedSimpArgs false
set_option maxRecDepth 100000

theorem TF.agg5 : aggT Try.prog 5 = some false := by kernel_rfl
theorem TF.en21 : entersT Try.prog 21 := enters_of Try.func21 (by kernel_rfl) (by kernel_rfl)
theorem TF.en31 : entersT Try.prog 31 := enters_of Try.func31 (by kernel_rfl) (by kernel_rfl)
theorem TF.sl67 : sliceT Try.prog 67 = some 4 := by kernel_rfl
theorem TF.sz4 : szT Try.prog 4 = some 1 := by kernel_rfl
theorem TF.by4 : bytesT Try.prog 4 = some 1 := by kernel_rfl
theorem TF.zraw4 : zeroT Try.prog 4 = some [(.bool false)] := by kernel_rfl
theorem TF.sl30 : sliceT Try.prog 30 = some 36 := by kernel_rfl
theorem TF.sz36 : szT Try.prog 36 = some 4 := by kernel_rfl
theorem TF.zraw36 : zeroT Try.prog 36 = some [(.int .i64 0), (.string ⟨#[]⟩), (.string ⟨#[]⟩), (.slice none 0 0)] := by kernel_rfl
theorem TF.agg4 : aggT Try.prog 4 = some false := by kernel_rfl
theorem TF.en32 : entersT Try.prog 32 := enters_of Try.func32 (by kernel_rfl) (by kernel_rfl)
theorem TF.pl36 : placesT Try.prog 36 = some [(0, 1), (1, 1), (2, 1), (3, 1)] := by kernel_rfl
theorem TF.zero36 : ZeroT Try.prog 36 [.v (.int .i64 0), .v (.string ⟨#[]⟩), .v (.string ⟨#[]⟩), .sl 1 []] := ⟨[(.int .i64 0), (.string ⟨#[]⟩), (.string ⟨#[]⟩), (.slice none 0 0)], by kernel_rfl, (.cons (.refl _) (.cons (.refl _) (.cons (.refl _) (.cons (.nil 1) .nil))))⟩
theorem TF.by36 : bytesT Try.prog 36 = some 64 := by kernel_rfl
theorem TF.zlen36 : (zeroT Try.prog 36).map (·.length) = some 4 := by kernel_rfl

theorem rsame_ok (a b : List UInt8) (hl : a.length ≤ 1000000) (hlb : b.length ≤ 1000000) : AC Try.prog 32 [bts a, bts b] [] (fun r n => n = [] ∧ r = boolA (decide (a = b))) := by
  refine ac_of_awp (rs := [4]) (nt := 26) Try.func32 rfl rfl rfl rfl (fun w0 C0 hq => ?_)
  refine awp_seq ?_
  refine awp_region ?_
  refine r_assign rfl rfl ?_
  refine awl_nil ?_
  refine x_then ?_
  refine awp_seq ?_
  refine awp_seq ?_
  refine awp_region ?_
  refine r_move rfl rfl ?_
  first | (refine r_lenS rfl rfl TF.sl34 rfl ?_) | (refine r_lenNil rfl TF.sl34 rfl ?_) | (refine r_lenV rfl TF.sl34 rfl ?_)
  refine r_move rfl rfl ?_
  first | (refine r_lenS rfl rfl TF.sl34 rfl ?_) | (refine r_lenNil rfl TF.sl34 rfl ?_) | (refine r_lenV rfl TF.sl34 rfl ?_)
  refine r_cmp rfl rfl rfl rfl ?_
  refine awl_nil ?_
  refine x_then ?_
  refine awp_cond rfl (fun hc0 => ?_) (fun hc0 => ?_)
  ·
    have hne : ¬ a = b := fun e => by subst e; simp at hc0
    refine awp_seq ?_
    refine awp_region ?_
    refine r_assign rfl rfl ?_
    refine awl_nil ?_
    refine x_then ?_
    refine awp_ret ?_
    refine x_thenR ?_
    exact ⟨(.inl rfl), _, [], (.one (by first | exact .mk rfl rfl | exact .nil rfl)), ⟨rfl, by rw [decide_eq_false hne]; rfl⟩, (List.nil_sublist _), (by simp)⟩
  ·
    have hlen : a.length = b.length := by simp [u8s_len] at hc0; omega
    refine awp_skip ?_
    refine x_then ?_
    refine awp_seq ?_
    refine awp_seq ?_
    refine awp_region ?_
    refine r_assign rfl rfl ?_
    refine awl_nil ?_
    refine x_then ?_
    refine awp_block ?_
    refine awp_loop (fun nn0 S => ∃ k : Nat, S = ⟨26, [(0, .a (bts a)), (1, .a (bts b)), (5, .a (.v (.int .i64 ((k : Int)))))], []⟩ ∧ nn0 = a.length - k ∧ (k ≤ a.length) ∧ (a.take k = b.take k)) (a.length - (0)) ⟨26, [(0, .a (bts a)), (1, .a (bts b)), (5, .a (.v (.int .i64 (((0) : Int)))))], []⟩ ⟨rfl, (Slots.cons rfl (by first | exact .refl _ | exact .nilOwn _ _ | exact .nilSl _ | exact .ownSl _ _ _  | exact SV.le.of_eq (by simp)) (Slots.cons rfl (by first | exact .refl _ | exact .nilOwn _ _ | exact .nilSl _ | exact .ownSl _ _ _  | exact SV.le.of_eq (by simp)) (Slots.cons rfl (by first | exact .refl _ | exact .nilOwn _ _ | exact .nilSl _ | exact .ownSl _ _ _  | exact SV.le.of_eq (by simp)) Slots.nil))), (by first | exact List.Sublist.refl _ | exact .cons_cons _ (.cons _ (.refl _)) | exact List.nil_sublist _ | exact .cons _ (.refl _) | exact .cons _ (.cons _ (.refl _)) | exact .cons _ (.cons _ (.cons _ (.refl _))) | exact .cons _ (.cons _ (.cons _ (.cons _ (.refl _)))) | exact .cons_cons _ (List.nil_sublist _))⟩ ⟨0, rfl, rfl, Nat.zero_le _, rfl⟩ ?_
    rintro nn0 _ ⟨k, rfl, rfl, hk, heq⟩
    refine awp_seq ?_
    refine awp_seq ?_
    refine awp_region ?_
    refine r_move rfl rfl ?_
    refine r_move rfl rfl ?_
    first | (refine r_lenS rfl rfl TF.sl34 rfl ?_) | (refine r_lenNil rfl TF.sl34 rfl ?_) | (refine r_lenV rfl TF.sl34 rfl ?_)
    refine r_cmp rfl rfl rfl rfl ?_
    refine awl_nil ?_
    refine x_then ?_
    refine awp_cond rfl (fun hc1 => ?_) (fun hc1 => ?_)
    ·
      have hltx : k < a.length := by have := of_decide_eq_true hc1; simp [u8s_len] at this; omega
      obtain ⟨x, hx⟩ := get_lt hltx
      obtain ⟨y, hy⟩ := get_lt (show k < b.length by omega)
      refine awp_skip ?_
      refine x_then ?_
      refine awp_seq ?_
      refine awp_block ?_
      refine awp_seq ?_
      refine awp_drawS [17, 18, 19, 20, 21, 22, 23, 24] [_, _, _, _, _, _, _, _] [] [] TF.mixed rfl rfl rfl ⟨⟨⟨⟨⟨⟨⟨⟨trivial
        , ⟨_, rfl, fun sl hd hr ho => by
            refine r_move (hr 0 _ rfl rfl rfl) rfl ?_
            exact awl_nil ⟨rfl, post_put⟩⟩⟩
        , ⟨_, rfl, fun sl hd hr ho => by
            refine r_move (hr 5 _ rfl rfl rfl) rfl ?_
            exact awl_nil ⟨rfl, post_put⟩⟩⟩
        , ⟨_, rfl, fun sl hd hr ho => by
            refine r_index (hd 0 _ rfl rfl rfl) rfl (hd 1 _ rfl rfl rfl) TF.sl34 TF.sz5 (by omega) (get_map hx) rfl ?_
            exact awl_nil ⟨rfl, post_put⟩⟩⟩
        , ⟨_, rfl, fun sl hd hr ho => by
            refine r_load1 (hd 2 _ rfl rfl rfl) TF.agg5 rfl ?_
            exact awl_nil ⟨rfl, post_put⟩⟩⟩
        , ⟨_, rfl, fun sl hd hr ho => by
            refine r_move (hr 1 _ rfl rfl rfl) rfl ?_
            exact awl_nil ⟨rfl, post_put⟩⟩⟩
        , ⟨_, rfl, fun sl hd hr ho => by
            refine r_move (hr 5 _ rfl rfl rfl) rfl ?_
            exact awl_nil ⟨rfl, post_put⟩⟩⟩
        , ⟨_, rfl, fun sl hd hr ho => by
            refine r_index (hd 4 _ rfl rfl rfl) rfl (hd 5 _ rfl rfl rfl) TF.sl34 TF.sz5 (by omega) (get_map hy) rfl ?_
            exact awl_nil ⟨rfl, post_put⟩⟩⟩
        , ⟨_, rfl, fun sl hd hr ho => by
            refine r_load1 (hd 6 _ rfl rfl rfl) TF.agg5 rfl ?_
            exact awl_nil ⟨rfl, post_put⟩⟩⟩
        (by rfl) ?_
      refine r_cmp rfl rfl rfl rfl ?_
      refine awl_nil ?_
      refine x_then ?_
      refine awp_cond rfl (fun hc2 => ?_) (fun hc2 => ?_)
      ·
        have hne : ¬ a = b := fun e => by subst e; rw [hx] at hy; cases hy; simp at hc2
        refine awp_seq ?_
        refine awp_region ?_
        refine r_assign rfl rfl ?_
        refine awl_nil ?_
        refine x_then ?_
        refine awp_ret ?_
        refine x_blockR ?_
        refine x_thenR ?_
        refine x_thenR ?_
        refine x_blockR ?_
        refine x_thenR ?_
        exact ⟨(.inl rfl), _, [], (.one (by first | exact .mk rfl rfl | exact .nil rfl)), ⟨rfl, by rw [decide_eq_false hne]; rfl⟩, (List.nil_sublist _), (by simp)⟩
      ·
        have hxy : x = y := by simp at hc2; exact UInt8.toNat_inj.1 (by omega)
        refine awp_skip ?_
        refine x_block ?_
        refine x_then ?_
        refine awp_region ?_
        refine r_move rfl rfl ?_
        refine r_ari _ rfl rfl rfl (wrap_id (by first | omega | (simp; omega))) rfl ?_
        refine r_assign rfl rfl ?_
        refine awl_nil ?_
        refine x_then ?_
        refine ⟨a.length - (k + 1), ⟨26, [(0, .a (bts a)), (1, .a (bts b)), (5, .a (.v (.int .i64 (((k + 1) : Int)))))], []⟩, ⟨rfl, (Slots.cons rfl (by first | exact .refl _ | exact .nilOwn _ _ | exact .nilSl _ | exact .ownSl _ _ _  | exact SV.le.of_eq (by simp)) (Slots.cons rfl (by first | exact .refl _ | exact .nilOwn _ _ | exact .nilSl _ | exact .ownSl _ _ _  | exact SV.le.of_eq (by simp)) (Slots.cons rfl (by first | exact .refl _ | exact .nilOwn _ _ | exact .nilSl _ | exact .ownSl _ _ _  | exact SV.le.of_eq (by simp)) Slots.nil))), (by first | exact List.Sublist.refl _ | exact .cons_cons _ (.cons _ (.refl _)) | exact List.nil_sublist _ | exact .cons _ (.refl _) | exact .cons _ (.cons _ (.refl _)) | exact .cons _ (.cons _ (.cons _ (.refl _))) | exact .cons _ (.cons _ (.cons _ (.cons _ (.refl _)))) | exact .cons_cons _ (List.nil_sublist _))⟩, (by omega), ⟨k + 1, rfl, rfl, (by omega), (by rw [takeS hx, takeS hy, heq, hxy])⟩⟩
    ·
      have hge : a.length ≤ k := by have := of_decide_eq_false hc1; simp [u8s_len] at this; omega
      have hab : a = b := by rw [List.take_of_length_le hge, List.take_of_length_le (by omega)] at heq; exact heq
      refine awp_exit ?_
      refine x_thenE ?_
      refine x_thenE ?_
      refine x_blockE ?_
      refine x_then ?_
      refine awp_seq ?_
      refine awp_region ?_
      refine r_assign rfl rfl ?_
      refine awl_nil ?_
      refine x_then ?_
      refine awp_ret ?_
      exact ⟨(.inl rfl), _, [], (.one (by first | exact .mk rfl rfl | exact .nil rfl)), ⟨rfl, by rw [decide_eq_true hab]; rfl⟩, (List.nil_sublist _), (by simp)⟩

theorem only_ok (a b : List File) (hla : a.length ≤ 1000) (hlb : b.length ≤ 1000) : AC Try.prog 31 [files a, files b] [] (fun r n => n = [] ∧ r = files (onlyS a b)) := by
  refine ac_of_awp (rs := [4]) (nt := 33) Try.func31 rfl rfl rfl rfl (fun w0 C0 hq => ?_)
  refine awp_seq ?_
  refine awp_region ?_
  refine r_assign rfl rfl ?_
  refine awl_nil ?_
  refine x_then ?_
  refine awp_seq ?_
  refine awp_region ?_
  refine r_lit 8 (parts := []) rfl TF.sl22 TF.sz54 TF.zraw54 rfl rfl rfl rfl rfl rfl rfl ?_
  refine r_assign rfl rfl ?_
  refine awl_nil ?_
  refine x_then ?_
  refine awp_seq ?_
  refine awp_region ?_
  refine r_move rfl rfl ?_
  refine r_call0 hq rfl rfl (.cons (.ev rfl rfl) .nil) (rclean_ok a hla) rfl TF.en21 rfl (fun r hr => ?_)
  obtain rfl := hr
  obtain ⟨L, hL⟩ : ∃ L, L = cleanS a := ⟨_, rfl⟩
  rw [← hL]
  have hLl : L.length ≤ 1000 := by rw [hL]; have := clean_len a; omega
  refine r_assign rfl rfl ?_
  refine awl_nil ?_
  refine x_then ?_
  refine awp_seq ?_
  refine awp_seq ?_
  refine awp_region ?_
  refine r_assign rfl rfl ?_
  refine awl_nil ?_
  refine x_then ?_
  refine awp_block ?_
  refine awp_loop (fun nn0 S => ∃ k : Nat, S = ⟨33, [(1, .a (files b)), (5, .own 8 2 (((L.take k).filter (lackB b)).map File.cs)), (6, .a (files L)), (7, .a (.v (.int .i64 ((k : Int)))))], []⟩ ∧ nn0 = L.length - k ∧ (k ≤ L.length)) (L.length - (0)) ⟨33, [(1, .a (files b)), (5, .own 8 2 (((L.take (0)).filter (lackB b)).map File.cs)), (6, .a (files L)), (7, .a (.v (.int .i64 (((0) : Int)))))], []⟩ ⟨rfl, (Slots.cons rfl (by first | exact .refl _ | exact .nilOwn _ _ | exact .nilSl _ | exact .ownSl _ _ _  | exact SV.le.of_eq (by simp)) (Slots.cons rfl (by first | exact .refl _ | exact .nilOwn _ _ | exact .nilSl _ | exact .ownSl _ _ _  | exact SV.le.of_eq (by simp)) (Slots.cons rfl (by first | exact .refl _ | exact .nilOwn _ _ | exact .nilSl _ | exact .ownSl _ _ _  | exact SV.le.of_eq (by simp)) (Slots.cons rfl (by first | exact .refl _ | exact .nilOwn _ _ | exact .nilSl _ | exact .ownSl _ _ _  | exact SV.le.of_eq (by simp)) Slots.nil)))), (by first | exact List.Sublist.refl _ | exact .cons_cons _ (.cons _ (.refl _)) | exact List.nil_sublist _ | exact .cons _ (.refl _) | exact .cons _ (.cons _ (.refl _)) | exact .cons _ (.cons _ (.cons _ (.refl _))) | exact .cons _ (.cons _ (.cons _ (.cons _ (.refl _)))) | exact .cons_cons _ (List.nil_sublist _))⟩ ⟨0, rfl, rfl, Nat.zero_le _⟩ ?_
  rintro nn0 _ ⟨k, rfl, rfl, hk⟩
  refine awp_seq ?_
  refine awp_seq ?_
  refine awp_region ?_
  refine r_move rfl rfl ?_
  refine r_move rfl rfl ?_
  first | (refine r_lenS rfl rfl TF.sl22 rfl ?_) | (refine r_lenNil rfl TF.sl22 rfl ?_) | (refine r_lenV rfl TF.sl22 rfl ?_)
  refine r_cmp rfl rfl rfl rfl ?_
  refine awl_nil ?_
  refine x_then ?_
  refine awp_cond rfl (fun hc0 => ?_) (fun hc0 => ?_)
  ·
    have hltx : k < L.length := by have := of_decide_eq_true hc0; simpa using this
    obtain ⟨x, hx⟩ := get_lt hltx
    have hfl : ((L.take k).filter (lackB b)).length ≤ k := Nat.le_trans (List.length_filter_le _ _) (by simp; omega)
    refine awp_skip ?_
    refine x_then ?_
    refine awp_seq ?_
    refine awp_block ?_
    refine awp_seq ?_
    refine awp_region ?_
    refine r_move rfl rfl ?_
    refine r_move rfl rfl ?_
    refine r_move rfl rfl ?_
    refine r_index rfl rfl rfl TF.sl22 TF.sz54 (by omega) (get_map hx) rfl ?_
    first | (refine r_fieldb rfl TF.f54_0 TF.sz9 rfl ?_) | (refine r_fieldcp rfl TF.f54_0 TF.sz9 rfl ?_)
    refine r_load1 rfl TF.agg9 rfl ?_
    refine r_call0 hq rfl rfl (.cons (.ev rfl rfl) (.cons (.ev rfl rfl) .nil)) (find_ok b x.name (by omega)) rfl TF.en33 rfl (fun r hr => ?_)
    obtain rfl := hr
    refine r_cmp rfl rfl rfl rfl ?_
    refine awl_nil ?_
    refine x_then ?_
    refine awp_cond rfl (fun hc1 => ?_) (fun hc1 => ?_)
    ·
      have hp : (lackB b) x = true := by have h := find_none_look (optI_none (of_decide_eq_true hc1)); simp [lackB, h]
      refine awp_region ?_
      refine r_move rfl rfl ?_
      refine r_move rfl rfl ?_
      refine r_move rfl rfl ?_
      refine r_index rfl rfl rfl TF.sl22 TF.sz54 (by omega) (get_map hx) rfl ?_
      refine r_loadA rfl TF.agg54 TF.sz54 rfl rfl ?_
      refine r_lit 30 (parts := [(0, .tmp 29)]) rfl TF.sl22 TF.sz54 TF.zraw54 rfl rfl rfl rfl rfl rfl rfl ?_
      refine r_append 8 rfl (by first | exact .own _ | exact .nil) rfl (by first | exact .sl _ | exact .own _ _ | exact .nil) TF.sl22 TF.sz54 (by decide) TF.by54 TF.zlen54 (by simp [chunks] <;> omega) (by simp [chunks] <;> omega) rfl ?_
      refine r_assign rfl rfl ?_
      refine awl_nil ?_
      refine x_block ?_
      refine x_then ?_
      refine awp_region ?_
      refine r_move rfl rfl ?_
      refine r_ari _ rfl rfl rfl (wrap_id (by first | omega | (simp; omega))) rfl ?_
      refine r_assign rfl rfl ?_
      refine awl_nil ?_
      refine x_then ?_
      refine ⟨L.length - (k + 1), ⟨33, [(1, .a (files b)), (5, .own 8 2 (((L.take (k + 1)).filter (lackB b)).map File.cs)), (6, .a (files L)), (7, .a (.v (.int .i64 (((k + 1) : Int)))))], []⟩, ⟨rfl, (Slots.cons rfl (by first | exact .refl _ | exact .nilOwn _ _ | exact .nilSl _ | exact .ownSl _ _ _  | exact SV.le.ownEq (by first | rfl | (rw [filtS_take hx, hp, if_pos rfl, List.map_append]; rfl) | (rw [filtS_take hx, hp, if_neg (by decide), List.append_nil])) | exact SV.le.of_eq (by first | rfl | (rw [filtS_take hx, hp, if_pos rfl, List.map_append]; rfl) | (rw [filtS_take hx, hp, if_neg (by decide), List.append_nil]))) (Slots.cons rfl (by first | exact .refl _ | exact .nilOwn _ _ | exact .nilSl _ | exact .ownSl _ _ _  | exact SV.le.ownEq (by first | rfl | (rw [filtS_take hx, hp, if_pos rfl, List.map_append]; rfl) | (rw [filtS_take hx, hp, if_neg (by decide), List.append_nil])) | exact SV.le.of_eq (by first | rfl | (rw [filtS_take hx, hp, if_pos rfl, List.map_append]; rfl) | (rw [filtS_take hx, hp, if_neg (by decide), List.append_nil]))) (Slots.cons rfl (by first | exact .refl _ | exact .nilOwn _ _ | exact .nilSl _ | exact .ownSl _ _ _  | exact SV.le.ownEq (by first | rfl | (rw [filtS_take hx, hp, if_pos rfl, List.map_append]; rfl) | (rw [filtS_take hx, hp, if_neg (by decide), List.append_nil])) | exact SV.le.of_eq (by first | rfl | (rw [filtS_take hx, hp, if_pos rfl, List.map_append]; rfl) | (rw [filtS_take hx, hp, if_neg (by decide), List.append_nil]))) (Slots.cons rfl (by first | exact .refl _ | exact .nilOwn _ _ | exact .nilSl _ | exact .ownSl _ _ _  | exact SV.le.ownEq (by first | rfl | (rw [filtS_take hx, hp, if_pos rfl, List.map_append]; rfl) | (rw [filtS_take hx, hp, if_neg (by decide), List.append_nil])) | exact SV.le.of_eq (by first | rfl | (rw [filtS_take hx, hp, if_pos rfl, List.map_append]; rfl) | (rw [filtS_take hx, hp, if_neg (by decide), List.append_nil]))) Slots.nil)))), (by first | exact List.Sublist.refl _ | exact .cons_cons _ (.cons _ (.refl _)) | exact List.nil_sublist _ | exact .cons _ (.refl _) | exact .cons _ (.cons _ (.refl _)) | exact .cons _ (.cons _ (.cons _ (.refl _))) | exact .cons _ (.cons _ (.cons _ (.cons _ (.refl _)))) | exact .cons_cons _ (List.nil_sublist _))⟩, (by omega), ⟨k + 1, rfl, rfl, (by omega)⟩⟩
    ·
      have hp : (lackB b) x = false := by
        obtain ⟨i, hi⟩ := optI_some (o := b.findIdx? (fun f => decide (f.name = x.name))) (by have := of_decide_eq_false hc1; omega)
        obtain ⟨y, _, _, h⟩ := find_some_look hi
        simp [lackB, h]
      refine awp_skip ?_
      refine x_block ?_
      refine x_then ?_
      refine awp_region ?_
      refine r_move rfl rfl ?_
      refine r_ari _ rfl rfl rfl (wrap_id (by first | omega | (simp; omega))) rfl ?_
      refine r_assign rfl rfl ?_
      refine awl_nil ?_
      refine x_then ?_
      refine ⟨L.length - (k + 1), ⟨33, [(1, .a (files b)), (5, .own 8 2 (((L.take (k + 1)).filter (lackB b)).map File.cs)), (6, .a (files L)), (7, .a (.v (.int .i64 (((k + 1) : Int)))))], []⟩, ⟨rfl, (Slots.cons rfl (by first | exact .refl _ | exact .nilOwn _ _ | exact .nilSl _ | exact .ownSl _ _ _  | exact SV.le.ownEq (by first | rfl | (rw [filtS_take hx, hp, if_pos rfl, List.map_append]; rfl) | (rw [filtS_take hx, hp, if_neg (by decide), List.append_nil])) | exact SV.le.of_eq (by first | rfl | (rw [filtS_take hx, hp, if_pos rfl, List.map_append]; rfl) | (rw [filtS_take hx, hp, if_neg (by decide), List.append_nil]))) (Slots.cons rfl (by first | exact .refl _ | exact .nilOwn _ _ | exact .nilSl _ | exact .ownSl _ _ _  | exact SV.le.ownEq (by first | rfl | (rw [filtS_take hx, hp, if_pos rfl, List.map_append]; rfl) | (rw [filtS_take hx, hp, if_neg (by decide), List.append_nil])) | exact SV.le.of_eq (by first | rfl | (rw [filtS_take hx, hp, if_pos rfl, List.map_append]; rfl) | (rw [filtS_take hx, hp, if_neg (by decide), List.append_nil]))) (Slots.cons rfl (by first | exact .refl _ | exact .nilOwn _ _ | exact .nilSl _ | exact .ownSl _ _ _  | exact SV.le.ownEq (by first | rfl | (rw [filtS_take hx, hp, if_pos rfl, List.map_append]; rfl) | (rw [filtS_take hx, hp, if_neg (by decide), List.append_nil])) | exact SV.le.of_eq (by first | rfl | (rw [filtS_take hx, hp, if_pos rfl, List.map_append]; rfl) | (rw [filtS_take hx, hp, if_neg (by decide), List.append_nil]))) (Slots.cons rfl (by first | exact .refl _ | exact .nilOwn _ _ | exact .nilSl _ | exact .ownSl _ _ _  | exact SV.le.ownEq (by first | rfl | (rw [filtS_take hx, hp, if_pos rfl, List.map_append]; rfl) | (rw [filtS_take hx, hp, if_neg (by decide), List.append_nil])) | exact SV.le.of_eq (by first | rfl | (rw [filtS_take hx, hp, if_pos rfl, List.map_append]; rfl) | (rw [filtS_take hx, hp, if_neg (by decide), List.append_nil]))) Slots.nil)))), (by first | exact List.Sublist.refl _ | exact .cons_cons _ (.cons _ (.refl _)) | exact List.nil_sublist _ | exact .cons _ (.refl _) | exact .cons _ (.cons _ (.refl _)) | exact .cons _ (.cons _ (.cons _ (.refl _))) | exact .cons _ (.cons _ (.cons _ (.cons _ (.refl _)))) | exact .cons_cons _ (List.nil_sublist _))⟩, (by omega), ⟨k + 1, rfl, rfl, (by omega)⟩⟩
  ·
    have hge : L.length ≤ k := by have := of_decide_eq_false hc0; simp at this; omega
    have hkl : L.take k = L := List.take_of_length_le hge
    refine awp_exit ?_
    refine x_thenE ?_
    refine x_thenE ?_
    refine x_blockE ?_
    refine x_then ?_
    refine awp_seq ?_
    refine awp_region ?_
    refine r_move rfl rfl ?_
    refine r_assign rfl rfl ?_
    refine awl_nil ?_
    refine x_then ?_
    refine awp_ret ?_
    exact ⟨(.inl rfl), _, [], (.one (by first | exact .mk rfl rfl | exact .nil rfl)), ⟨rfl, by rw [hkl, hL, only_filter]; rfl⟩, (List.nil_sublist _), (by simp)⟩

theorem tk_get {tk : List Bool} {k : Nat} {t : Bool} (h : tk[k]? = some t) : (tk.map fun x => AV.v (.bool x))[0 + k * 1]? = some (.v (.bool t)) := by
  rw [Nat.zero_add, Nat.mul_one, List.getElem?_map, h]; rfl
theorem tk_set {tk : List Bool} {k : Nat} (h : k < tk.length) : (tk.map fun x => AV.v (.bool x)).take (0 + k * 1) ++ [AV.v (.bool true)] ++ (tk.map fun x => AV.v (.bool x)).drop (0 + k * 1 + 1) = (tk.set k true).map fun x => AV.v (.bool x) := by
  rw [Nat.zero_add, Nat.mul_one, List.map_set, List.set_eq_take_append_cons_drop, if_pos (by simpa using h)]
  simp
theorem only_get {a b : List File} {k : Nat} {s : ByteArray} (h : (wentF a b)[k]? = some s) : (onlyS a b)[k]? = some (fA a s) := by unfold onlyS; rw [List.getElem?_map, h]; rfl
theorem only_len (a b : List File) : (onlyS a b).length = (wentF a b).length := by simp [onlyS]
theorem zip_get {K : List ByteArray} {tk : List Bool} {k : Nat} {x : ByteArray} {t : Bool} (h : K[k]? = some x) (h' : tk[k]? = some t) : (K.zip tk)[k]? = some (x, t) := by
  rw [List.getElem?_zip_eq_some]; exact ⟨h, h'⟩
theorem clean_get {a : List File} {k : Nat} {s : ByteArray} (h : (namesF a)[k]? = some s) : (cleanS a)[k]? = some (fA a s) := by rw [clean_map, List.getElem?_map, h]; rfl

set_option maxHeartbeats 2000000 in
theorem rof_ok (a b : List File) (hla : a.length ≤ 1000) (hlb : b.length ≤ 1000) (hdA : ∀ f ∈ a, f.data.length ≤ 1000000) (hdb : ∀ f ∈ b, f.data.length ≤ 1000000) : AC Try.prog 14 [files a, files b] [] (fun r n => n = [] ∧ r = fcsA (OfF a b)) := by
  refine ac_of_awp (rs := [4]) (nt := 175) Try.func14 rfl rfl rfl rfl (fun w0 C0 hq => ?_)
  refine awp_seq ?_
  refine awp_region ?_
  refine r_assign rfl rfl ?_
  refine awl_nil ?_
  refine x_then ?_
  refine awp_seq ?_
  refine awp_region ?_
  refine r_move rfl rfl ?_
  refine r_move rfl rfl ?_
  refine r_call0 hq rfl rfl (.cons (.ev rfl rfl) (.cons (.ev rfl rfl) .nil)) (only_ok a b hla hlb) rfl TF.en31 rfl (fun r hr => ?_)
  obtain rfl := hr
  refine r_assign rfl rfl ?_
  refine awl_nil ?_
  refine x_then ?_
  refine awp_seq ?_
  refine awp_region ?_
  refine r_move rfl rfl ?_
  refine r_move rfl rfl ?_
  refine r_call0 hq rfl rfl (.cons (.ev rfl rfl) (.cons (.ev rfl rfl) .nil)) (only_ok b a hlb hla) rfl TF.en31 rfl (fun r hr => ?_)
  obtain rfl := hr
  have hwl := went_len a b
  have hwl2 := went_len b a
  have hnl := names_len a
  refine r_assign rfl rfl ?_
  refine awl_nil ?_
  refine x_then ?_
  refine awp_seq ?_
  refine awp_region ?_
  refine r_move rfl rfl ?_
  first | (refine r_lenS rfl rfl TF.sl22 rfl ?_) | (refine r_lenNil rfl TF.sl22 rfl ?_) | (refine r_lenV rfl TF.sl22 rfl ?_)
  refine r_makeSlice rfl rfl TF.sl67 TF.sz4 TF.by4 TF.zraw4 (by simp [onlyS]; omega) (by simp [onlyS]; omega) rfl (fun b26 => ?_)
  rw [show (List.map File.cs (onlyS b a)).length = (wentF b a).length from by simp [onlyS]]
  refine r_assign rfl rfl ?_
  refine awl_nil ?_
  refine x_then ?_
  refine awp_seq ?_
  refine awp_region ?_
  refine r_lit 27 (parts := []) rfl TF.sl30 TF.sz36 TF.zraw36 rfl rfl rfl rfl rfl rfl rfl ?_
  refine r_assign rfl rfl ?_
  refine awl_nil ?_
  refine x_then ?_
  refine awp_seq ?_
  refine awp_region ?_
  refine r_lit 28 (parts := []) rfl TF.sl30 TF.sz36 TF.zraw36 rfl rfl rfl rfl rfl rfl rfl ?_
  refine r_assign rfl rfl ?_
  refine awl_nil ?_
  refine x_then ?_
  refine awp_seq ?_
  refine awp_seq ?_
  refine awp_region ?_
  refine r_assign rfl rfl ?_
  refine awl_nil ?_
  refine x_then ?_
  refine awp_block ?_
  refine awp_loop (fun nn0 S => ∃ i : Nat, ∃ out : List FC, ∃ gone : List FC, ∃ tk : List Bool, S = ⟨175, [(0, .a (files a)), (1, .a (files b)), (5, .a (files (onlyS a b))), (6, .a (files (onlyS b a))), (7, .a (.v (.slice (some ⟨b26, 0, none⟩) (wentF b a).length (wentF b a).length))), (8, .own 27 4 (out.map FC.cs)), (9, .own 28 4 (gone.map FC.cs)), (10, .a (.v (.int .i64 ((i : Int)))))], [⟨b26, true, .box (tk.map fun x => AV.v (.bool x))⟩]⟩ ∧ nn0 = (wentF a b).length - i ∧ (i ≤ (wentF a b).length) ∧ (tk.length = (wentF b a).length) ∧ (splitF a b i = (keepB (wentF b a) tk, out, gone)) ∧ (out.length ≤ i) ∧ (gone.length ≤ i)) ((wentF a b).length - (0)) ⟨175, [(0, .a (files a)), (1, .a (files b)), (5, .a (files (onlyS a b))), (6, .a (files (onlyS b a))), (7, .a (.v (.slice (some ⟨b26, 0, none⟩) (wentF b a).length (wentF b a).length))), (8, .own 27 4 (([]).map FC.cs)), (9, .own 28 4 (([]).map FC.cs)), (10, .a (.v (.int .i64 (((0) : Int)))))], [⟨b26, true, .box (((List.replicate (wentF b a).length false)).map fun x => AV.v (.bool x))⟩]⟩ ⟨rfl, (Slots.cons rfl (by first | exact .refl _ | exact .nilOwn _ _ | exact .nilSl _ | exact .ownSl _ _ _  | exact SV.le.of_eq (by simp)) (Slots.cons rfl (by first | exact .refl _ | exact .nilOwn _ _ | exact .nilSl _ | exact .ownSl _ _ _  | exact SV.le.of_eq (by simp)) (Slots.cons rfl (by first | exact .refl _ | exact .nilOwn _ _ | exact .nilSl _ | exact .ownSl _ _ _  | exact SV.le.of_eq (by simp)) (Slots.cons rfl (by first | exact .refl _ | exact .nilOwn _ _ | exact .nilSl _ | exact .ownSl _ _ _  | exact SV.le.of_eq (by simp)) (Slots.cons rfl (by first | exact .refl _ | exact .nilOwn _ _ | exact .nilSl _ | exact .ownSl _ _ _  | exact SV.le.of_eq (by simp)) (Slots.cons rfl (by first | exact .refl _ | exact .nilOwn _ _ | exact .nilSl _ | exact .ownSl _ _ _  | exact SV.le.of_eq (by simp)) (Slots.cons rfl (by first | exact .refl _ | exact .nilOwn _ _ | exact .nilSl _ | exact .ownSl _ _ _  | exact SV.le.of_eq (by simp)) (Slots.cons rfl (by first | exact .refl _ | exact .nilOwn _ _ | exact .nilSl _ | exact .ownSl _ _ _  | exact SV.le.of_eq (by simp)) Slots.nil)))))))), (by rw [List.map_replicate]; exact List.Sublist.refl _)⟩ ⟨0, [], [], (List.replicate (wentF b a).length false), rfl, rfl, Nat.zero_le _, (by simp), (by rw [keep_all]; rfl), (by simp), (by simp)⟩ ?_
  rintro nn0 _ ⟨i, out, gone, tk, rfl, rfl, hi, htl, hst, hol, hgl⟩
  refine awp_seq ?_
  refine awp_seq ?_
  refine awp_region ?_
  refine r_move rfl rfl ?_
  refine r_move rfl rfl ?_
  first | (refine r_lenS rfl rfl TF.sl22 rfl ?_) | (refine r_lenNil rfl TF.sl22 rfl ?_) | (refine r_lenV rfl TF.sl22 rfl ?_)
  refine r_cmp rfl rfl rfl rfl ?_
  refine awl_nil ?_
  refine x_then ?_
  refine awp_cond rfl (fun hc0 => ?_) (fun hc0 => ?_)
  ·
    have hlti : i < (wentF a b).length := by have := of_decide_eq_true hc0; simp [onlyS] at this; omega
    obtain ⟨s, hs⟩ := get_lt hlti
    refine awp_skip ?_
    refine x_then ?_
    refine awp_seq ?_
    refine awp_block ?_
    refine awp_seq ?_
    refine awp_region ?_
    refine r_assign rfl rfl ?_
    refine awl_nil ?_
    refine x_then ?_
    refine awp_seq ?_
    refine awp_seq ?_
    refine awp_region ?_
    refine r_assign rfl rfl ?_
    refine awl_nil ?_
    refine x_then ?_
    refine awp_block ?_
    refine awp_loop (fun nn0 S => ∃ k : Nat, S = ⟨175, [(0, .a (files a)), (1, .a (files b)), (5, .a (files (onlyS a b))), (6, .a (files (onlyS b a))), (7, .a (.v (.slice (some ⟨b26, 0, none⟩) (wentF b a).length (wentF b a).length))), (8, .own 27 4 (out.map FC.cs)), (9, .own 28 4 (gone.map FC.cs)), (10, .a (.v (.int .i64 ((i : Int))))), (11, .a (.v (.int .i64 (optI ((((wentF b a).zip tk).take k).findIdx? (hitZ (hitF a b s))))))), (12, .a (.v (.int .i64 ((k : Int)))))], [⟨b26, true, .box (tk.map fun x => AV.v (.bool x))⟩]⟩ ∧ nn0 = (wentF b a).length - k ∧ (k ≤ (wentF b a).length)) ((wentF b a).length - (0)) ⟨175, [(0, .a (files a)), (1, .a (files b)), (5, .a (files (onlyS a b))), (6, .a (files (onlyS b a))), (7, .a (.v (.slice (some ⟨b26, 0, none⟩) (wentF b a).length (wentF b a).length))), (8, .own 27 4 (out.map FC.cs)), (9, .own 28 4 (gone.map FC.cs)), (10, .a (.v (.int .i64 ((i : Int))))), (11, .a (.v (.int .i64 (optI ((((wentF b a).zip tk).take (0)).findIdx? (hitZ (hitF a b s))))))), (12, .a (.v (.int .i64 (((0) : Int)))))], [⟨b26, true, .box (tk.map fun x => AV.v (.bool x))⟩]⟩ ⟨rfl, (Slots.cons rfl (by first | exact .refl _ | exact .nilOwn _ _ | exact .nilSl _ | exact .ownSl _ _ _  | exact SV.le.of_eq (by simp)) (Slots.cons rfl (by first | exact .refl _ | exact .nilOwn _ _ | exact .nilSl _ | exact .ownSl _ _ _  | exact SV.le.of_eq (by simp)) (Slots.cons rfl (by first | exact .refl _ | exact .nilOwn _ _ | exact .nilSl _ | exact .ownSl _ _ _  | exact SV.le.of_eq (by simp)) (Slots.cons rfl (by first | exact .refl _ | exact .nilOwn _ _ | exact .nilSl _ | exact .ownSl _ _ _  | exact SV.le.of_eq (by simp)) (Slots.cons rfl (by first | exact .refl _ | exact .nilOwn _ _ | exact .nilSl _ | exact .ownSl _ _ _  | exact SV.le.of_eq (by simp)) (Slots.cons rfl (by first | exact .refl _ | exact .nilOwn _ _ | exact .nilSl _ | exact .ownSl _ _ _  | exact SV.le.of_eq (by simp)) (Slots.cons rfl (by first | exact .refl _ | exact .nilOwn _ _ | exact .nilSl _ | exact .ownSl _ _ _  | exact SV.le.of_eq (by simp)) (Slots.cons rfl (by first | exact .refl _ | exact .nilOwn _ _ | exact .nilSl _ | exact .ownSl _ _ _  | exact SV.le.of_eq (by simp)) (Slots.cons rfl (by first | exact .refl _ | exact .nilOwn _ _ | exact .nilSl _ | exact .ownSl _ _ _  | exact SV.le.of_eq (by simp)) (Slots.cons rfl (by first | exact .refl _ | exact .nilOwn _ _ | exact .nilSl _ | exact .ownSl _ _ _  | exact SV.le.of_eq (by simp)) Slots.nil)))))))))), (by first | exact List.Sublist.refl _ | exact .cons_cons _ (.cons _ (.refl _)) | exact List.nil_sublist _ | exact .cons _ (.refl _) | exact .cons _ (.cons _ (.refl _)) | exact .cons _ (.cons _ (.cons _ (.refl _))) | exact .cons _ (.cons _ (.cons _ (.cons _ (.refl _)))) | exact .cons_cons _ (List.nil_sublist _))⟩ ⟨0, rfl, rfl, Nat.zero_le _⟩ ?_
    rintro nn0 _ ⟨k, rfl, rfl, hk⟩
    refine awp_seq ?_
    refine awp_seq ?_
    refine awp_region ?_
    refine r_move rfl rfl ?_
    refine r_move rfl rfl ?_
    first | (refine r_lenS rfl rfl TF.sl22 rfl ?_) | (refine r_lenNil rfl TF.sl22 rfl ?_) | (refine r_lenV rfl TF.sl22 rfl ?_)
    refine r_cmp rfl rfl rfl rfl ?_
    refine awl_nil ?_
    refine x_then ?_
    refine awp_cond rfl (fun hc1 => ?_) (fun hc1 => ?_)
    ·
      have hltk : k < (wentF b a).length := by have := of_decide_eq_true hc1; simp [onlyS] at this; omega
      obtain ⟨x, hx⟩ := get_lt hltk
      obtain ⟨tb, htb⟩ := get_lt (show k < tk.length by omega)
      have hz := zip_get hx htb
      have holl := only_len b a
      refine awp_skip ?_
      refine x_then ?_
      refine awp_seq ?_
      refine awp_block ?_
      refine awp_seq ?_
      rcases Bool.eq_false_or_eq_true (decide (optI ((((wentF b a).zip tk).take k).findIdx? (hitZ (hitF a b s))) < 0)) with hg43 | hg43
      ·
        have hno := optI_none (of_decide_eq_true hg43)
        rcases Bool.eq_false_or_eq_true (!tb) with hg50 | hg50
        ·
          rcases Bool.eq_false_or_eq_true (decide ((0 : Int) < ((u8s ((lookF a s).getD [])).length : Int))) with hg59 | hg59
          ·
            have hdl : decide (0 < ((lookF a s).getD []).length) = true := by have := of_decide_eq_true hg59; simp [u8s_len] at this ⊢; omega
            refine awp_drawS [41, 42, 43, 44, 45, 46, 47, 48, 49, 50, 51, 52, 53, 54, 55, 56, 57, 58, 59, 60, 61, 62, 63, 64, 65, 66, 67, 68, 69] [_, _, _, _, _, _, _, _, _, _, _, _, _, _, _, _, _, _, _, _, _, _, _, _, _, _, _, _, _] [] [] TF.mixed rfl rfl rfl ⟨⟨⟨⟨⟨⟨⟨⟨⟨⟨⟨⟨⟨⟨⟨⟨⟨⟨⟨⟨⟨⟨⟨⟨⟨⟨⟨⟨⟨trivial
              , ⟨_, rfl, fun sl hd hr ho => by
                  refine r_move (hr 11 _ rfl rfl rfl) rfl ?_
                  exact awl_nil ⟨rfl, post_put⟩⟩⟩
              , ⟨_, rfl, fun sl hd hr ho => by
                  refine r_cmp (hd 0 _ rfl rfl rfl) rfl rfl rfl ?_
                  exact awl_nil ⟨rfl, post_put⟩⟩⟩
              , ⟨_, rfl, fun sl hd hr ho => by
                  refine r_move (hd 1 _ rfl rfl rfl) rfl ?_
                  exact awl_nil ⟨rfl, post_put⟩⟩⟩
              , ⟨_, rfl, fun sl hd hr ho => by
                  refine g_run rfl (hd 2 _ rfl rfl rfl) hg43 ?_
                  refine r_move (hr 7 _ rfl rfl rfl) rfl ?_
                  exact awl_nil ⟨rfl, post_put⟩⟩⟩
              , ⟨_, rfl, fun sl hd hr ho => by
                  refine g_run rfl (hd 2 _ rfl rfl rfl) hg43 ?_
                  refine r_move (hr 12 _ rfl rfl rfl) rfl ?_
                  exact awl_nil ⟨rfl, post_put⟩⟩⟩
              , ⟨_, rfl, fun sl hd hr ho => by
                  refine g_run rfl (hd 2 _ rfl rfl rfl) hg43 ?_
                  refine r_indexV (hd 3 _ rfl rfl rfl) (hd 4 _ rfl rfl rfl) TF.sl67 TF.sz4 (by omega) (by omega) rfl ?_
                  exact awl_nil ⟨rfl, post_put⟩⟩⟩
              , ⟨_, rfl, fun sl hd hr ho => by
                  refine g_run rfl (hd 2 _ rfl rfl rfl) hg43 ?_
                  refine r_load1b 0 (hd 5 _ rfl rfl rfl) rfl (tk_get htb) TF.agg4 rfl ?_
                  exact awl_nil ⟨rfl, post_put⟩⟩⟩
              , ⟨_, rfl, fun sl hd hr ho => by
                  refine g_run rfl (hd 2 _ rfl rfl rfl) hg43 ?_
                  refine r_not (hd 6 _ rfl rfl rfl) rfl ?_
                  exact awl_nil ⟨rfl, post_put⟩⟩⟩
              , ⟨_, rfl, fun sl hd hr ho => by
                  refine r_pickT (hd 2 _ rfl rfl rfl) hg43 (hd 7 _ rfl rfl rfl) rfl ?_
                  exact awl_nil ⟨rfl, post_put⟩⟩⟩
              , ⟨_, rfl, fun sl hd hr ho => by
                  refine r_move (hd 8 _ rfl rfl rfl) rfl ?_
                  exact awl_nil ⟨rfl, post_put⟩⟩⟩
              , ⟨_, rfl, fun sl hd hr ho => by
                  refine g_run rfl (hd 9 _ rfl rfl rfl) hg50 ?_
                  refine r_move (hr 5 _ rfl rfl rfl) rfl ?_
                  exact awl_nil ⟨rfl, post_put⟩⟩⟩
              , ⟨_, rfl, fun sl hd hr ho => by
                  refine g_run rfl (hd 9 _ rfl rfl rfl) hg50 ?_
                  refine r_move (hr 10 _ rfl rfl rfl) rfl ?_
                  exact awl_nil ⟨rfl, post_put⟩⟩⟩
              , ⟨_, rfl, fun sl hd hr ho => by
                  refine g_run rfl (hd 9 _ rfl rfl rfl) hg50 ?_
                  refine r_index (hd 10 _ rfl rfl rfl) rfl (hd 11 _ rfl rfl rfl) TF.sl22 TF.sz54 (by omega) (get_map (only_get hs)) rfl ?_
                  exact awl_nil ⟨rfl, post_put⟩⟩⟩
              , ⟨_, rfl, fun sl hd hr ho => by
                  refine g_run rfl (hd 9 _ rfl rfl rfl) hg50 ?_
                  first | (refine r_fieldcp (hd 12 _ rfl rfl rfl) TF.f54_1 TF.sz34 rfl ?_) | (refine r_fieldb (hd 12 _ rfl rfl rfl) TF.f54_1 TF.sz34 rfl ?_)
                  exact awl_nil ⟨rfl, post_put⟩⟩⟩
              , ⟨_, rfl, fun sl hd hr ho => by
                  refine g_run rfl (hd 9 _ rfl rfl rfl) hg50 ?_
                  first | (refine r_load1 (hd 13 _ rfl rfl rfl) TF.agg34 rfl ?_) | (refine r_load1b 0 (hd 13 _ rfl rfl rfl) rfl rfl TF.agg34 rfl ?_)
                  exact awl_nil ⟨rfl, post_put⟩⟩⟩
              , ⟨_, rfl, fun sl hd hr ho => by
                  refine g_run rfl (hd 9 _ rfl rfl rfl) hg50 ?_
                  first | (refine r_lenS (hd 14 _ rfl rfl rfl) rfl TF.sl34 rfl ?_) | (refine r_lenNil (hd 14 _ rfl rfl rfl) TF.sl34 rfl ?_) | (refine r_lenV (hd 14 _ rfl rfl rfl) TF.sl34 rfl ?_)
                  exact awl_nil ⟨rfl, post_put⟩⟩⟩
              , ⟨_, rfl, fun sl hd hr ho => by
                  refine g_run rfl (hd 9 _ rfl rfl rfl) hg50 ?_
                  refine r_cmp (hd 15 _ rfl rfl rfl) rfl rfl rfl ?_
                  exact awl_nil ⟨rfl, post_put⟩⟩⟩
              , ⟨_, rfl, fun sl hd hr ho => by
                  refine r_pickT (hd 9 _ rfl rfl rfl) hg50 (hd 16 _ rfl rfl rfl) rfl ?_
                  exact awl_nil ⟨rfl, post_put⟩⟩⟩
              , ⟨_, rfl, fun sl hd hr ho => by
                  refine r_move (hd 17 _ rfl rfl rfl) rfl ?_
                  exact awl_nil ⟨rfl, post_put⟩⟩⟩
              , ⟨_, rfl, fun sl hd hr ho => by
                  refine g_run rfl (hd 18 _ rfl rfl rfl) hg59 ?_
                  refine r_move (hr 5 _ rfl rfl rfl) rfl ?_
                  exact awl_nil ⟨rfl, post_put⟩⟩⟩
              , ⟨_, rfl, fun sl hd hr ho => by
                  refine g_run rfl (hd 18 _ rfl rfl rfl) hg59 ?_
                  refine r_move (hr 10 _ rfl rfl rfl) rfl ?_
                  exact awl_nil ⟨rfl, post_put⟩⟩⟩
              , ⟨_, rfl, fun sl hd hr ho => by
                  refine g_run rfl (hd 18 _ rfl rfl rfl) hg59 ?_
                  refine r_index (hd 19 _ rfl rfl rfl) rfl (hd 20 _ rfl rfl rfl) TF.sl22 TF.sz54 (by omega) (get_map (only_get hs)) rfl ?_
                  exact awl_nil ⟨rfl, post_put⟩⟩⟩
              , ⟨_, rfl, fun sl hd hr ho => by
                  refine g_run rfl (hd 18 _ rfl rfl rfl) hg59 ?_
                  first | (refine r_fieldcp (hd 21 _ rfl rfl rfl) TF.f54_1 TF.sz34 rfl ?_) | (refine r_fieldb (hd 21 _ rfl rfl rfl) TF.f54_1 TF.sz34 rfl ?_)
                  exact awl_nil ⟨rfl, post_put⟩⟩⟩
              , ⟨_, rfl, fun sl hd hr ho => by
                  refine g_run rfl (hd 18 _ rfl rfl rfl) hg59 ?_
                  first | (refine r_load1 (hd 22 _ rfl rfl rfl) TF.agg34 rfl ?_) | (refine r_load1b 0 (hd 22 _ rfl rfl rfl) rfl rfl TF.agg34 rfl ?_)
                  exact awl_nil ⟨rfl, post_put⟩⟩⟩
              , ⟨_, rfl, fun sl hd hr ho => by
                  refine g_run rfl (hd 18 _ rfl rfl rfl) hg59 ?_
                  refine r_move (hr 6 _ rfl rfl rfl) rfl ?_
                  exact awl_nil ⟨rfl, post_put⟩⟩⟩
              , ⟨_, rfl, fun sl hd hr ho => by
                  refine g_run rfl (hd 18 _ rfl rfl rfl) hg59 ?_
                  refine r_move (hr 12 _ rfl rfl rfl) rfl ?_
                  exact awl_nil ⟨rfl, post_put⟩⟩⟩
              , ⟨_, rfl, fun sl hd hr ho => by
                  refine g_run rfl (hd 18 _ rfl rfl rfl) hg59 ?_
                  refine r_index (hd 24 _ rfl rfl rfl) rfl (hd 25 _ rfl rfl rfl) TF.sl22 TF.sz54 (by omega) (get_map (only_get hx)) rfl ?_
                  exact awl_nil ⟨rfl, post_put⟩⟩⟩
              , ⟨_, rfl, fun sl hd hr ho => by
                  refine g_run rfl (hd 18 _ rfl rfl rfl) hg59 ?_
                  first | (refine r_fieldcp (hd 26 _ rfl rfl rfl) TF.f54_1 TF.sz34 rfl ?_) | (refine r_fieldb (hd 26 _ rfl rfl rfl) TF.f54_1 TF.sz34 rfl ?_)
                  exact awl_nil ⟨rfl, post_put⟩⟩⟩
              , ⟨_, rfl, fun sl hd hr ho => by
                  refine g_run rfl (hd 18 _ rfl rfl rfl) hg59 ?_
                  first | (refine r_load1 (hd 27 _ rfl rfl rfl) TF.agg34 rfl ?_) | (refine r_load1b 0 (hd 27 _ rfl rfl rfl) rfl rfl TF.agg34 rfl ?_)
                  exact awl_nil ⟨rfl, post_put⟩⟩⟩
              (by rfl) ?_
            refine g_run rfl rfl hg59 ?_
            refine r_call0 hq rfl rfl (.cons (.ev rfl rfl) (.cons (.ev rfl rfl) .nil)) (rsame_ok ((lookF a s).getD []) ((lookF b x).getD []) (look_len hdA s) (look_len hdb x)) rfl TF.en32 rfl (fun r hr => ?_)
            obtain rfl := hr
            refine r_pickT rfl hg59 rfl rfl ?_
            refine awl_nil ?_
            refine x_then ?_
            refine awp_cond rfl (fun hc2 => ?_) (fun hc2 => ?_)
            ·
              have hto := to_hit (q := (hitZ (hitF a b s))) hz hno (by simp only [hitZ, hitF, hg50, hdl, hc2, Bool.and_self])
              refine awp_region ?_
              refine r_move rfl rfl ?_
              refine r_assign rfl rfl ?_
              refine awl_nil ?_
              refine x_block ?_
              refine x_then ?_
              refine awp_region ?_
              refine r_move rfl rfl ?_
              refine r_ari _ rfl rfl rfl (wrap_id (by first | omega | (simp; omega))) rfl ?_
              refine r_assign rfl rfl ?_
              refine awl_nil ?_
              refine x_then ?_
              refine ⟨(wentF b a).length - (k + 1), ⟨175, [(0, .a (files a)), (1, .a (files b)), (5, .a (files (onlyS a b))), (6, .a (files (onlyS b a))), (7, .a (.v (.slice (some ⟨b26, 0, none⟩) (wentF b a).length (wentF b a).length))), (8, .own 27 4 (out.map FC.cs)), (9, .own 28 4 (gone.map FC.cs)), (10, .a (.v (.int .i64 ((i : Int))))), (11, .a (.v (.int .i64 (optI ((((wentF b a).zip tk).take (k + 1)).findIdx? (hitZ (hitF a b s))))))), (12, .a (.v (.int .i64 (((k + 1) : Int)))))], [⟨b26, true, .box (tk.map fun x => AV.v (.bool x))⟩]⟩, ⟨rfl, (Slots.cons rfl (by first | exact .refl _ | exact .nilOwn _ _ | exact .nilSl _ | exact .ownSl _ _ _  | exact SV.le.ownEq (by rw [hto]; first | done | rfl) | exact SV.le.of_eq (by rw [hto]; first | done | rfl)) (Slots.cons rfl (by first | exact .refl _ | exact .nilOwn _ _ | exact .nilSl _ | exact .ownSl _ _ _  | exact SV.le.ownEq (by rw [hto]; first | done | rfl) | exact SV.le.of_eq (by rw [hto]; first | done | rfl)) (Slots.cons rfl (by first | exact .refl _ | exact .nilOwn _ _ | exact .nilSl _ | exact .ownSl _ _ _  | exact SV.le.ownEq (by rw [hto]; first | done | rfl) | exact SV.le.of_eq (by rw [hto]; first | done | rfl)) (Slots.cons rfl (by first | exact .refl _ | exact .nilOwn _ _ | exact .nilSl _ | exact .ownSl _ _ _  | exact SV.le.ownEq (by rw [hto]; first | done | rfl) | exact SV.le.of_eq (by rw [hto]; first | done | rfl)) (Slots.cons rfl (by first | exact .refl _ | exact .nilOwn _ _ | exact .nilSl _ | exact .ownSl _ _ _  | exact SV.le.ownEq (by rw [hto]; first | done | rfl) | exact SV.le.of_eq (by rw [hto]; first | done | rfl)) (Slots.cons rfl (by first | exact .refl _ | exact .nilOwn _ _ | exact .nilSl _ | exact .ownSl _ _ _  | exact SV.le.ownEq (by rw [hto]; first | done | rfl) | exact SV.le.of_eq (by rw [hto]; first | done | rfl)) (Slots.cons rfl (by first | exact .refl _ | exact .nilOwn _ _ | exact .nilSl _ | exact .ownSl _ _ _  | exact SV.le.ownEq (by rw [hto]; first | done | rfl) | exact SV.le.of_eq (by rw [hto]; first | done | rfl)) (Slots.cons rfl (by first | exact .refl _ | exact .nilOwn _ _ | exact .nilSl _ | exact .ownSl _ _ _  | exact SV.le.ownEq (by rw [hto]; first | done | rfl) | exact SV.le.of_eq (by rw [hto]; first | done | rfl)) (Slots.cons rfl (by first | exact .refl _ | exact .nilOwn _ _ | exact .nilSl _ | exact .ownSl _ _ _  | exact SV.le.ownEq (by rw [hto]; first | done | rfl) | exact SV.le.of_eq (by rw [hto]; first | done | rfl)) (Slots.cons rfl (by first | exact .refl _ | exact .nilOwn _ _ | exact .nilSl _ | exact .ownSl _ _ _  | exact SV.le.ownEq (by rw [hto]; first | done | rfl) | exact SV.le.of_eq (by rw [hto]; first | done | rfl)) Slots.nil)))))))))), (by first | exact List.Sublist.refl _ | exact .cons_cons _ (.cons _ (.refl _)) | exact List.nil_sublist _ | exact .cons _ (.refl _) | exact .cons _ (.cons _ (.refl _)) | exact .cons _ (.cons _ (.cons _ (.refl _))) | exact .cons _ (.cons _ (.cons _ (.cons _ (.refl _)))) | exact .cons_cons _ (List.nil_sublist _))⟩, (by omega), ⟨k + 1, rfl, rfl, (by omega)⟩⟩
            ·
              have hto := to_miss (q := (hitZ (hitF a b s))) hz (by simp only [hitZ, hitF, hc2, Bool.and_false])
              refine awp_skip ?_
              refine x_block ?_
              refine x_then ?_
              refine awp_region ?_
              refine r_move rfl rfl ?_
              refine r_ari _ rfl rfl rfl (wrap_id (by first | omega | (simp; omega))) rfl ?_
              refine r_assign rfl rfl ?_
              refine awl_nil ?_
              refine x_then ?_
              refine ⟨(wentF b a).length - (k + 1), ⟨175, [(0, .a (files a)), (1, .a (files b)), (5, .a (files (onlyS a b))), (6, .a (files (onlyS b a))), (7, .a (.v (.slice (some ⟨b26, 0, none⟩) (wentF b a).length (wentF b a).length))), (8, .own 27 4 (out.map FC.cs)), (9, .own 28 4 (gone.map FC.cs)), (10, .a (.v (.int .i64 ((i : Int))))), (11, .a (.v (.int .i64 (optI ((((wentF b a).zip tk).take (k + 1)).findIdx? (hitZ (hitF a b s))))))), (12, .a (.v (.int .i64 (((k + 1) : Int)))))], [⟨b26, true, .box (tk.map fun x => AV.v (.bool x))⟩]⟩, ⟨rfl, (Slots.cons rfl (by first | exact .refl _ | exact .nilOwn _ _ | exact .nilSl _ | exact .ownSl _ _ _  | exact SV.le.ownEq (by rw [hto]; first | done | rfl) | exact SV.le.of_eq (by rw [hto]; first | done | rfl)) (Slots.cons rfl (by first | exact .refl _ | exact .nilOwn _ _ | exact .nilSl _ | exact .ownSl _ _ _  | exact SV.le.ownEq (by rw [hto]; first | done | rfl) | exact SV.le.of_eq (by rw [hto]; first | done | rfl)) (Slots.cons rfl (by first | exact .refl _ | exact .nilOwn _ _ | exact .nilSl _ | exact .ownSl _ _ _  | exact SV.le.ownEq (by rw [hto]; first | done | rfl) | exact SV.le.of_eq (by rw [hto]; first | done | rfl)) (Slots.cons rfl (by first | exact .refl _ | exact .nilOwn _ _ | exact .nilSl _ | exact .ownSl _ _ _  | exact SV.le.ownEq (by rw [hto]; first | done | rfl) | exact SV.le.of_eq (by rw [hto]; first | done | rfl)) (Slots.cons rfl (by first | exact .refl _ | exact .nilOwn _ _ | exact .nilSl _ | exact .ownSl _ _ _  | exact SV.le.ownEq (by rw [hto]; first | done | rfl) | exact SV.le.of_eq (by rw [hto]; first | done | rfl)) (Slots.cons rfl (by first | exact .refl _ | exact .nilOwn _ _ | exact .nilSl _ | exact .ownSl _ _ _  | exact SV.le.ownEq (by rw [hto]; first | done | rfl) | exact SV.le.of_eq (by rw [hto]; first | done | rfl)) (Slots.cons rfl (by first | exact .refl _ | exact .nilOwn _ _ | exact .nilSl _ | exact .ownSl _ _ _  | exact SV.le.ownEq (by rw [hto]; first | done | rfl) | exact SV.le.of_eq (by rw [hto]; first | done | rfl)) (Slots.cons rfl (by first | exact .refl _ | exact .nilOwn _ _ | exact .nilSl _ | exact .ownSl _ _ _  | exact SV.le.ownEq (by rw [hto]; first | done | rfl) | exact SV.le.of_eq (by rw [hto]; first | done | rfl)) (Slots.cons rfl (by first | exact .refl _ | exact .nilOwn _ _ | exact .nilSl _ | exact .ownSl _ _ _  | exact SV.le.ownEq (by rw [hto]; first | done | rfl) | exact SV.le.of_eq (by rw [hto]; first | done | rfl)) (Slots.cons rfl (by first | exact .refl _ | exact .nilOwn _ _ | exact .nilSl _ | exact .ownSl _ _ _  | exact SV.le.ownEq (by rw [hto]; first | done | rfl) | exact SV.le.of_eq (by rw [hto]; first | done | rfl)) Slots.nil)))))))))), (by first | exact List.Sublist.refl _ | exact .cons_cons _ (.cons _ (.refl _)) | exact List.nil_sublist _ | exact .cons _ (.refl _) | exact .cons _ (.cons _ (.refl _)) | exact .cons _ (.cons _ (.cons _ (.refl _))) | exact .cons _ (.cons _ (.cons _ (.cons _ (.refl _)))) | exact .cons_cons _ (List.nil_sublist _))⟩, (by omega), ⟨k + 1, rfl, rfl, (by omega)⟩⟩
          ·
            have hdl : decide (0 < ((lookF a s).getD []).length) = false := by have := of_decide_eq_false hg59; simp [u8s_len] at this ⊢; omega
            have hto := to_miss (q := (hitZ (hitF a b s))) hz (by simp only [hitZ, hitF, hdl, Bool.false_and, Bool.and_false])
            refine awp_drawS [41, 42, 43, 44, 45, 46, 47, 48, 49, 50, 51, 52, 53, 54, 55, 56, 57, 58, 59, 60, 61, 62, 63, 64, 65, 66, 67, 68, 69] [_, _, _, _, _, _, _, _, _, _, _, _, _, _, _, _, _, _, _, _, _, _, _, _, _, _, _, _, _] [] [] TF.mixed rfl rfl rfl ⟨⟨⟨⟨⟨⟨⟨⟨⟨⟨⟨⟨⟨⟨⟨⟨⟨⟨⟨⟨⟨⟨⟨⟨⟨⟨⟨⟨⟨trivial
              , ⟨_, rfl, fun sl hd hr ho => by
                  refine r_move (hr 11 _ rfl rfl rfl) rfl ?_
                  exact awl_nil ⟨rfl, post_put⟩⟩⟩
              , ⟨_, rfl, fun sl hd hr ho => by
                  refine r_cmp (hd 0 _ rfl rfl rfl) rfl rfl rfl ?_
                  exact awl_nil ⟨rfl, post_put⟩⟩⟩
              , ⟨_, rfl, fun sl hd hr ho => by
                  refine r_move (hd 1 _ rfl rfl rfl) rfl ?_
                  exact awl_nil ⟨rfl, post_put⟩⟩⟩
              , ⟨_, rfl, fun sl hd hr ho => by
                  refine g_run rfl (hd 2 _ rfl rfl rfl) hg43 ?_
                  refine r_move (hr 7 _ rfl rfl rfl) rfl ?_
                  exact awl_nil ⟨rfl, post_put⟩⟩⟩
              , ⟨_, rfl, fun sl hd hr ho => by
                  refine g_run rfl (hd 2 _ rfl rfl rfl) hg43 ?_
                  refine r_move (hr 12 _ rfl rfl rfl) rfl ?_
                  exact awl_nil ⟨rfl, post_put⟩⟩⟩
              , ⟨_, rfl, fun sl hd hr ho => by
                  refine g_run rfl (hd 2 _ rfl rfl rfl) hg43 ?_
                  refine r_indexV (hd 3 _ rfl rfl rfl) (hd 4 _ rfl rfl rfl) TF.sl67 TF.sz4 (by omega) (by omega) rfl ?_
                  exact awl_nil ⟨rfl, post_put⟩⟩⟩
              , ⟨_, rfl, fun sl hd hr ho => by
                  refine g_run rfl (hd 2 _ rfl rfl rfl) hg43 ?_
                  refine r_load1b 0 (hd 5 _ rfl rfl rfl) rfl (tk_get htb) TF.agg4 rfl ?_
                  exact awl_nil ⟨rfl, post_put⟩⟩⟩
              , ⟨_, rfl, fun sl hd hr ho => by
                  refine g_run rfl (hd 2 _ rfl rfl rfl) hg43 ?_
                  refine r_not (hd 6 _ rfl rfl rfl) rfl ?_
                  exact awl_nil ⟨rfl, post_put⟩⟩⟩
              , ⟨_, rfl, fun sl hd hr ho => by
                  refine r_pickT (hd 2 _ rfl rfl rfl) hg43 (hd 7 _ rfl rfl rfl) rfl ?_
                  exact awl_nil ⟨rfl, post_put⟩⟩⟩
              , ⟨_, rfl, fun sl hd hr ho => by
                  refine r_move (hd 8 _ rfl rfl rfl) rfl ?_
                  exact awl_nil ⟨rfl, post_put⟩⟩⟩
              , ⟨_, rfl, fun sl hd hr ho => by
                  refine g_run rfl (hd 9 _ rfl rfl rfl) hg50 ?_
                  refine r_move (hr 5 _ rfl rfl rfl) rfl ?_
                  exact awl_nil ⟨rfl, post_put⟩⟩⟩
              , ⟨_, rfl, fun sl hd hr ho => by
                  refine g_run rfl (hd 9 _ rfl rfl rfl) hg50 ?_
                  refine r_move (hr 10 _ rfl rfl rfl) rfl ?_
                  exact awl_nil ⟨rfl, post_put⟩⟩⟩
              , ⟨_, rfl, fun sl hd hr ho => by
                  refine g_run rfl (hd 9 _ rfl rfl rfl) hg50 ?_
                  refine r_index (hd 10 _ rfl rfl rfl) rfl (hd 11 _ rfl rfl rfl) TF.sl22 TF.sz54 (by omega) (get_map (only_get hs)) rfl ?_
                  exact awl_nil ⟨rfl, post_put⟩⟩⟩
              , ⟨_, rfl, fun sl hd hr ho => by
                  refine g_run rfl (hd 9 _ rfl rfl rfl) hg50 ?_
                  first | (refine r_fieldcp (hd 12 _ rfl rfl rfl) TF.f54_1 TF.sz34 rfl ?_) | (refine r_fieldb (hd 12 _ rfl rfl rfl) TF.f54_1 TF.sz34 rfl ?_)
                  exact awl_nil ⟨rfl, post_put⟩⟩⟩
              , ⟨_, rfl, fun sl hd hr ho => by
                  refine g_run rfl (hd 9 _ rfl rfl rfl) hg50 ?_
                  first | (refine r_load1 (hd 13 _ rfl rfl rfl) TF.agg34 rfl ?_) | (refine r_load1b 0 (hd 13 _ rfl rfl rfl) rfl rfl TF.agg34 rfl ?_)
                  exact awl_nil ⟨rfl, post_put⟩⟩⟩
              , ⟨_, rfl, fun sl hd hr ho => by
                  refine g_run rfl (hd 9 _ rfl rfl rfl) hg50 ?_
                  first | (refine r_lenS (hd 14 _ rfl rfl rfl) rfl TF.sl34 rfl ?_) | (refine r_lenNil (hd 14 _ rfl rfl rfl) TF.sl34 rfl ?_) | (refine r_lenV (hd 14 _ rfl rfl rfl) TF.sl34 rfl ?_)
                  exact awl_nil ⟨rfl, post_put⟩⟩⟩
              , ⟨_, rfl, fun sl hd hr ho => by
                  refine g_run rfl (hd 9 _ rfl rfl rfl) hg50 ?_
                  refine r_cmp (hd 15 _ rfl rfl rfl) rfl rfl rfl ?_
                  exact awl_nil ⟨rfl, post_put⟩⟩⟩
              , ⟨_, rfl, fun sl hd hr ho => by
                  refine r_pickT (hd 9 _ rfl rfl rfl) hg50 (hd 16 _ rfl rfl rfl) rfl ?_
                  exact awl_nil ⟨rfl, post_put⟩⟩⟩
              , ⟨_, rfl, fun sl hd hr ho => by
                  refine r_move (hd 17 _ rfl rfl rfl) rfl ?_
                  exact awl_nil ⟨rfl, post_put⟩⟩⟩
              , ⟨_, rfl, fun sl hd hr ho => by
                  refine g_skip rfl (hd 18 _ rfl rfl rfl) hg59 rfl ?_
                  exact awl_nil ⟨rfl, post_put⟩⟩⟩
              , ⟨_, rfl, fun sl hd hr ho => by
                  refine g_skip rfl (hd 18 _ rfl rfl rfl) hg59 rfl ?_
                  exact awl_nil ⟨rfl, post_put⟩⟩⟩
              , ⟨_, rfl, fun sl hd hr ho => by
                  refine g_skip rfl (hd 18 _ rfl rfl rfl) hg59 rfl ?_
                  exact awl_nil ⟨rfl, post_put⟩⟩⟩
              , ⟨_, rfl, fun sl hd hr ho => by
                  refine g_skip rfl (hd 18 _ rfl rfl rfl) hg59 rfl ?_
                  exact awl_nil ⟨rfl, post_put⟩⟩⟩
              , ⟨_, rfl, fun sl hd hr ho => by
                  refine g_skip rfl (hd 18 _ rfl rfl rfl) hg59 rfl ?_
                  exact awl_nil ⟨rfl, post_put⟩⟩⟩
              , ⟨_, rfl, fun sl hd hr ho => by
                  refine g_skip rfl (hd 18 _ rfl rfl rfl) hg59 rfl ?_
                  exact awl_nil ⟨rfl, post_put⟩⟩⟩
              , ⟨_, rfl, fun sl hd hr ho => by
                  refine g_skip rfl (hd 18 _ rfl rfl rfl) hg59 rfl ?_
                  exact awl_nil ⟨rfl, post_put⟩⟩⟩
              , ⟨_, rfl, fun sl hd hr ho => by
                  refine g_skip rfl (hd 18 _ rfl rfl rfl) hg59 rfl ?_
                  exact awl_nil ⟨rfl, post_put⟩⟩⟩
              , ⟨_, rfl, fun sl hd hr ho => by
                  refine g_skip rfl (hd 18 _ rfl rfl rfl) hg59 rfl ?_
                  exact awl_nil ⟨rfl, post_put⟩⟩⟩
              , ⟨_, rfl, fun sl hd hr ho => by
                  refine g_skip rfl (hd 18 _ rfl rfl rfl) hg59 rfl ?_
                  exact awl_nil ⟨rfl, post_put⟩⟩⟩
              (by rfl) ?_
            refine g_skip rfl rfl hg59 rfl ?_
            refine r_pickF rfl hg59 rfl rfl ?_
            refine awl_nil ?_
            refine x_then ?_
            refine awp_condF rfl ?_
            refine awp_skip ?_
            refine x_block ?_
            refine x_then ?_
            refine awp_region ?_
            refine r_move rfl rfl ?_
            refine r_ari _ rfl rfl rfl (wrap_id (by first | omega | (simp; omega))) rfl ?_
            refine r_assign rfl rfl ?_
            refine awl_nil ?_
            refine x_then ?_
            refine ⟨(wentF b a).length - (k + 1), ⟨175, [(0, .a (files a)), (1, .a (files b)), (5, .a (files (onlyS a b))), (6, .a (files (onlyS b a))), (7, .a (.v (.slice (some ⟨b26, 0, none⟩) (wentF b a).length (wentF b a).length))), (8, .own 27 4 (out.map FC.cs)), (9, .own 28 4 (gone.map FC.cs)), (10, .a (.v (.int .i64 ((i : Int))))), (11, .a (.v (.int .i64 (optI ((((wentF b a).zip tk).take (k + 1)).findIdx? (hitZ (hitF a b s))))))), (12, .a (.v (.int .i64 (((k + 1) : Int)))))], [⟨b26, true, .box (tk.map fun x => AV.v (.bool x))⟩]⟩, ⟨rfl, (Slots.cons rfl (by first | exact .refl _ | exact .nilOwn _ _ | exact .nilSl _ | exact .ownSl _ _ _  | exact SV.le.ownEq (by rw [hto]; first | done | rfl) | exact SV.le.of_eq (by rw [hto]; first | done | rfl)) (Slots.cons rfl (by first | exact .refl _ | exact .nilOwn _ _ | exact .nilSl _ | exact .ownSl _ _ _  | exact SV.le.ownEq (by rw [hto]; first | done | rfl) | exact SV.le.of_eq (by rw [hto]; first | done | rfl)) (Slots.cons rfl (by first | exact .refl _ | exact .nilOwn _ _ | exact .nilSl _ | exact .ownSl _ _ _  | exact SV.le.ownEq (by rw [hto]; first | done | rfl) | exact SV.le.of_eq (by rw [hto]; first | done | rfl)) (Slots.cons rfl (by first | exact .refl _ | exact .nilOwn _ _ | exact .nilSl _ | exact .ownSl _ _ _  | exact SV.le.ownEq (by rw [hto]; first | done | rfl) | exact SV.le.of_eq (by rw [hto]; first | done | rfl)) (Slots.cons rfl (by first | exact .refl _ | exact .nilOwn _ _ | exact .nilSl _ | exact .ownSl _ _ _  | exact SV.le.ownEq (by rw [hto]; first | done | rfl) | exact SV.le.of_eq (by rw [hto]; first | done | rfl)) (Slots.cons rfl (by first | exact .refl _ | exact .nilOwn _ _ | exact .nilSl _ | exact .ownSl _ _ _  | exact SV.le.ownEq (by rw [hto]; first | done | rfl) | exact SV.le.of_eq (by rw [hto]; first | done | rfl)) (Slots.cons rfl (by first | exact .refl _ | exact .nilOwn _ _ | exact .nilSl _ | exact .ownSl _ _ _  | exact SV.le.ownEq (by rw [hto]; first | done | rfl) | exact SV.le.of_eq (by rw [hto]; first | done | rfl)) (Slots.cons rfl (by first | exact .refl _ | exact .nilOwn _ _ | exact .nilSl _ | exact .ownSl _ _ _  | exact SV.le.ownEq (by rw [hto]; first | done | rfl) | exact SV.le.of_eq (by rw [hto]; first | done | rfl)) (Slots.cons rfl (by first | exact .refl _ | exact .nilOwn _ _ | exact .nilSl _ | exact .ownSl _ _ _  | exact SV.le.ownEq (by rw [hto]; first | done | rfl) | exact SV.le.of_eq (by rw [hto]; first | done | rfl)) (Slots.cons rfl (by first | exact .refl _ | exact .nilOwn _ _ | exact .nilSl _ | exact .ownSl _ _ _  | exact SV.le.ownEq (by rw [hto]; first | done | rfl) | exact SV.le.of_eq (by rw [hto]; first | done | rfl)) Slots.nil)))))))))), (by first | exact List.Sublist.refl _ | exact .cons_cons _ (.cons _ (.refl _)) | exact List.nil_sublist _ | exact .cons _ (.refl _) | exact .cons _ (.cons _ (.refl _)) | exact .cons _ (.cons _ (.cons _ (.refl _))) | exact .cons _ (.cons _ (.cons _ (.cons _ (.refl _)))) | exact .cons_cons _ (List.nil_sublist _))⟩, (by omega), ⟨k + 1, rfl, rfl, (by omega)⟩⟩
        ·
          have hto := to_miss (q := (hitZ (hitF a b s))) hz (by simp only [hitZ, hg50, Bool.false_and])
          refine awp_drawS [41, 42, 43, 44, 45, 46, 47, 48, 49, 50, 51, 52, 53, 54, 55, 56, 57, 58, 59, 60, 61, 62, 63, 64, 65, 66, 67, 68, 69] [_, _, _, _, _, _, _, _, _, _, _, _, _, _, _, _, _, _, _, _, _, _, _, _, _, _, _, _, _] [] [] TF.mixed rfl rfl rfl ⟨⟨⟨⟨⟨⟨⟨⟨⟨⟨⟨⟨⟨⟨⟨⟨⟨⟨⟨⟨⟨⟨⟨⟨⟨⟨⟨⟨⟨trivial
            , ⟨_, rfl, fun sl hd hr ho => by
                refine r_move (hr 11 _ rfl rfl rfl) rfl ?_
                exact awl_nil ⟨rfl, post_put⟩⟩⟩
            , ⟨_, rfl, fun sl hd hr ho => by
                refine r_cmp (hd 0 _ rfl rfl rfl) rfl rfl rfl ?_
                exact awl_nil ⟨rfl, post_put⟩⟩⟩
            , ⟨_, rfl, fun sl hd hr ho => by
                refine r_move (hd 1 _ rfl rfl rfl) rfl ?_
                exact awl_nil ⟨rfl, post_put⟩⟩⟩
            , ⟨_, rfl, fun sl hd hr ho => by
                refine g_run rfl (hd 2 _ rfl rfl rfl) hg43 ?_
                refine r_move (hr 7 _ rfl rfl rfl) rfl ?_
                exact awl_nil ⟨rfl, post_put⟩⟩⟩
            , ⟨_, rfl, fun sl hd hr ho => by
                refine g_run rfl (hd 2 _ rfl rfl rfl) hg43 ?_
                refine r_move (hr 12 _ rfl rfl rfl) rfl ?_
                exact awl_nil ⟨rfl, post_put⟩⟩⟩
            , ⟨_, rfl, fun sl hd hr ho => by
                refine g_run rfl (hd 2 _ rfl rfl rfl) hg43 ?_
                refine r_indexV (hd 3 _ rfl rfl rfl) (hd 4 _ rfl rfl rfl) TF.sl67 TF.sz4 (by omega) (by omega) rfl ?_
                exact awl_nil ⟨rfl, post_put⟩⟩⟩
            , ⟨_, rfl, fun sl hd hr ho => by
                refine g_run rfl (hd 2 _ rfl rfl rfl) hg43 ?_
                refine r_load1b 0 (hd 5 _ rfl rfl rfl) rfl (tk_get htb) TF.agg4 rfl ?_
                exact awl_nil ⟨rfl, post_put⟩⟩⟩
            , ⟨_, rfl, fun sl hd hr ho => by
                refine g_run rfl (hd 2 _ rfl rfl rfl) hg43 ?_
                refine r_not (hd 6 _ rfl rfl rfl) rfl ?_
                exact awl_nil ⟨rfl, post_put⟩⟩⟩
            , ⟨_, rfl, fun sl hd hr ho => by
                refine r_pickT (hd 2 _ rfl rfl rfl) hg43 (hd 7 _ rfl rfl rfl) rfl ?_
                exact awl_nil ⟨rfl, post_put⟩⟩⟩
            , ⟨_, rfl, fun sl hd hr ho => by
                refine r_move (hd 8 _ rfl rfl rfl) rfl ?_
                exact awl_nil ⟨rfl, post_put⟩⟩⟩
            , ⟨_, rfl, fun sl hd hr ho => by
                refine g_skip rfl (hd 9 _ rfl rfl rfl) hg50 rfl ?_
                exact awl_nil ⟨rfl, post_put⟩⟩⟩
            , ⟨_, rfl, fun sl hd hr ho => by
                refine g_skip rfl (hd 9 _ rfl rfl rfl) hg50 rfl ?_
                exact awl_nil ⟨rfl, post_put⟩⟩⟩
            , ⟨_, rfl, fun sl hd hr ho => by
                refine g_skip rfl (hd 9 _ rfl rfl rfl) hg50 rfl ?_
                exact awl_nil ⟨rfl, post_put⟩⟩⟩
            , ⟨_, rfl, fun sl hd hr ho => by
                refine g_skip rfl (hd 9 _ rfl rfl rfl) hg50 rfl ?_
                exact awl_nil ⟨rfl, post_put⟩⟩⟩
            , ⟨_, rfl, fun sl hd hr ho => by
                refine g_skip rfl (hd 9 _ rfl rfl rfl) hg50 rfl ?_
                exact awl_nil ⟨rfl, post_put⟩⟩⟩
            , ⟨_, rfl, fun sl hd hr ho => by
                refine g_skip rfl (hd 9 _ rfl rfl rfl) hg50 rfl ?_
                exact awl_nil ⟨rfl, post_put⟩⟩⟩
            , ⟨_, rfl, fun sl hd hr ho => by
                refine g_skip rfl (hd 9 _ rfl rfl rfl) hg50 rfl ?_
                exact awl_nil ⟨rfl, post_put⟩⟩⟩
            , ⟨_, rfl, fun sl hd hr ho => by
                refine r_pickF (hd 9 _ rfl rfl rfl) hg50 rfl rfl ?_
                exact awl_nil ⟨rfl, post_put⟩⟩⟩
            , ⟨_, rfl, fun sl hd hr ho => by
                refine r_move (hd 17 _ rfl rfl rfl) rfl ?_
                exact awl_nil ⟨rfl, post_put⟩⟩⟩
            , ⟨_, rfl, fun sl hd hr ho => by
                refine g_skip rfl (hd 18 _ rfl rfl rfl) rfl rfl ?_
                exact awl_nil ⟨rfl, post_put⟩⟩⟩
            , ⟨_, rfl, fun sl hd hr ho => by
                refine g_skip rfl (hd 18 _ rfl rfl rfl) rfl rfl ?_
                exact awl_nil ⟨rfl, post_put⟩⟩⟩
            , ⟨_, rfl, fun sl hd hr ho => by
                refine g_skip rfl (hd 18 _ rfl rfl rfl) rfl rfl ?_
                exact awl_nil ⟨rfl, post_put⟩⟩⟩
            , ⟨_, rfl, fun sl hd hr ho => by
                refine g_skip rfl (hd 18 _ rfl rfl rfl) rfl rfl ?_
                exact awl_nil ⟨rfl, post_put⟩⟩⟩
            , ⟨_, rfl, fun sl hd hr ho => by
                refine g_skip rfl (hd 18 _ rfl rfl rfl) rfl rfl ?_
                exact awl_nil ⟨rfl, post_put⟩⟩⟩
            , ⟨_, rfl, fun sl hd hr ho => by
                refine g_skip rfl (hd 18 _ rfl rfl rfl) rfl rfl ?_
                exact awl_nil ⟨rfl, post_put⟩⟩⟩
            , ⟨_, rfl, fun sl hd hr ho => by
                refine g_skip rfl (hd 18 _ rfl rfl rfl) rfl rfl ?_
                exact awl_nil ⟨rfl, post_put⟩⟩⟩
            , ⟨_, rfl, fun sl hd hr ho => by
                refine g_skip rfl (hd 18 _ rfl rfl rfl) rfl rfl ?_
                exact awl_nil ⟨rfl, post_put⟩⟩⟩
            , ⟨_, rfl, fun sl hd hr ho => by
                refine g_skip rfl (hd 18 _ rfl rfl rfl) rfl rfl ?_
                exact awl_nil ⟨rfl, post_put⟩⟩⟩
            , ⟨_, rfl, fun sl hd hr ho => by
                refine g_skip rfl (hd 18 _ rfl rfl rfl) rfl rfl ?_
                exact awl_nil ⟨rfl, post_put⟩⟩⟩
            (by rfl) ?_
          refine g_skip rfl rfl rfl rfl ?_
          refine r_pickF rfl rfl rfl rfl ?_
          refine awl_nil ?_
          refine x_then ?_
          refine awp_condF rfl ?_
          refine awp_skip ?_
          refine x_block ?_
          refine x_then ?_
          refine awp_region ?_
          refine r_move rfl rfl ?_
          refine r_ari _ rfl rfl rfl (wrap_id (by first | omega | (simp; omega))) rfl ?_
          refine r_assign rfl rfl ?_
          refine awl_nil ?_
          refine x_then ?_
          refine ⟨(wentF b a).length - (k + 1), ⟨175, [(0, .a (files a)), (1, .a (files b)), (5, .a (files (onlyS a b))), (6, .a (files (onlyS b a))), (7, .a (.v (.slice (some ⟨b26, 0, none⟩) (wentF b a).length (wentF b a).length))), (8, .own 27 4 (out.map FC.cs)), (9, .own 28 4 (gone.map FC.cs)), (10, .a (.v (.int .i64 ((i : Int))))), (11, .a (.v (.int .i64 (optI ((((wentF b a).zip tk).take (k + 1)).findIdx? (hitZ (hitF a b s))))))), (12, .a (.v (.int .i64 (((k + 1) : Int)))))], [⟨b26, true, .box (tk.map fun x => AV.v (.bool x))⟩]⟩, ⟨rfl, (Slots.cons rfl (by first | exact .refl _ | exact .nilOwn _ _ | exact .nilSl _ | exact .ownSl _ _ _  | exact SV.le.ownEq (by rw [hto]; first | done | rfl) | exact SV.le.of_eq (by rw [hto]; first | done | rfl)) (Slots.cons rfl (by first | exact .refl _ | exact .nilOwn _ _ | exact .nilSl _ | exact .ownSl _ _ _  | exact SV.le.ownEq (by rw [hto]; first | done | rfl) | exact SV.le.of_eq (by rw [hto]; first | done | rfl)) (Slots.cons rfl (by first | exact .refl _ | exact .nilOwn _ _ | exact .nilSl _ | exact .ownSl _ _ _  | exact SV.le.ownEq (by rw [hto]; first | done | rfl) | exact SV.le.of_eq (by rw [hto]; first | done | rfl)) (Slots.cons rfl (by first | exact .refl _ | exact .nilOwn _ _ | exact .nilSl _ | exact .ownSl _ _ _  | exact SV.le.ownEq (by rw [hto]; first | done | rfl) | exact SV.le.of_eq (by rw [hto]; first | done | rfl)) (Slots.cons rfl (by first | exact .refl _ | exact .nilOwn _ _ | exact .nilSl _ | exact .ownSl _ _ _  | exact SV.le.ownEq (by rw [hto]; first | done | rfl) | exact SV.le.of_eq (by rw [hto]; first | done | rfl)) (Slots.cons rfl (by first | exact .refl _ | exact .nilOwn _ _ | exact .nilSl _ | exact .ownSl _ _ _  | exact SV.le.ownEq (by rw [hto]; first | done | rfl) | exact SV.le.of_eq (by rw [hto]; first | done | rfl)) (Slots.cons rfl (by first | exact .refl _ | exact .nilOwn _ _ | exact .nilSl _ | exact .ownSl _ _ _  | exact SV.le.ownEq (by rw [hto]; first | done | rfl) | exact SV.le.of_eq (by rw [hto]; first | done | rfl)) (Slots.cons rfl (by first | exact .refl _ | exact .nilOwn _ _ | exact .nilSl _ | exact .ownSl _ _ _  | exact SV.le.ownEq (by rw [hto]; first | done | rfl) | exact SV.le.of_eq (by rw [hto]; first | done | rfl)) (Slots.cons rfl (by first | exact .refl _ | exact .nilOwn _ _ | exact .nilSl _ | exact .ownSl _ _ _  | exact SV.le.ownEq (by rw [hto]; first | done | rfl) | exact SV.le.of_eq (by rw [hto]; first | done | rfl)) (Slots.cons rfl (by first | exact .refl _ | exact .nilOwn _ _ | exact .nilSl _ | exact .ownSl _ _ _  | exact SV.le.ownEq (by rw [hto]; first | done | rfl) | exact SV.le.of_eq (by rw [hto]; first | done | rfl)) Slots.nil)))))))))), (by first | exact List.Sublist.refl _ | exact .cons_cons _ (.cons _ (.refl _)) | exact List.nil_sublist _ | exact .cons _ (.refl _) | exact .cons _ (.cons _ (.refl _)) | exact .cons _ (.cons _ (.cons _ (.refl _))) | exact .cons _ (.cons _ (.cons _ (.cons _ (.refl _)))) | exact .cons_cons _ (List.nil_sublist _))⟩, (by omega), ⟨k + 1, rfl, rfl, (by omega)⟩⟩
      ·
        have hto := to_had (q := (hitZ (hitF a b s))) hz (fun h => by rw [decide_eq_true h] at hg43; cases hg43)
        refine awp_drawS [41, 42, 43, 44, 45, 46, 47, 48, 49, 50, 51, 52, 53, 54, 55, 56, 57, 58, 59, 60, 61, 62, 63, 64, 65, 66, 67, 68, 69] [_, _, _, _, _, _, _, _, _, _, _, _, _, _, _, _, _, _, _, _, _, _, _, _, _, _, _, _, _] [] [] TF.mixed rfl rfl rfl ⟨⟨⟨⟨⟨⟨⟨⟨⟨⟨⟨⟨⟨⟨⟨⟨⟨⟨⟨⟨⟨⟨⟨⟨⟨⟨⟨⟨⟨trivial
          , ⟨_, rfl, fun sl hd hr ho => by
              refine r_move (hr 11 _ rfl rfl rfl) rfl ?_
              exact awl_nil ⟨rfl, post_put⟩⟩⟩
          , ⟨_, rfl, fun sl hd hr ho => by
              refine r_cmp (hd 0 _ rfl rfl rfl) rfl rfl rfl ?_
              exact awl_nil ⟨rfl, post_put⟩⟩⟩
          , ⟨_, rfl, fun sl hd hr ho => by
              refine r_move (hd 1 _ rfl rfl rfl) rfl ?_
              exact awl_nil ⟨rfl, post_put⟩⟩⟩
          , ⟨_, rfl, fun sl hd hr ho => by
              refine g_skip rfl (hd 2 _ rfl rfl rfl) hg43 rfl ?_
              exact awl_nil ⟨rfl, post_put⟩⟩⟩
          , ⟨_, rfl, fun sl hd hr ho => by
              refine g_skip rfl (hd 2 _ rfl rfl rfl) hg43 rfl ?_
              exact awl_nil ⟨rfl, post_put⟩⟩⟩
          , ⟨_, rfl, fun sl hd hr ho => by
              refine g_skip rfl (hd 2 _ rfl rfl rfl) hg43 rfl ?_
              exact awl_nil ⟨rfl, post_put⟩⟩⟩
          , ⟨_, rfl, fun sl hd hr ho => by
              refine g_skip rfl (hd 2 _ rfl rfl rfl) hg43 rfl ?_
              exact awl_nil ⟨rfl, post_put⟩⟩⟩
          , ⟨_, rfl, fun sl hd hr ho => by
              refine g_skip rfl (hd 2 _ rfl rfl rfl) hg43 rfl ?_
              exact awl_nil ⟨rfl, post_put⟩⟩⟩
          , ⟨_, rfl, fun sl hd hr ho => by
              refine r_pickF (hd 2 _ rfl rfl rfl) hg43 rfl rfl ?_
              exact awl_nil ⟨rfl, post_put⟩⟩⟩
          , ⟨_, rfl, fun sl hd hr ho => by
              refine r_move (hd 8 _ rfl rfl rfl) rfl ?_
              exact awl_nil ⟨rfl, post_put⟩⟩⟩
          , ⟨_, rfl, fun sl hd hr ho => by
              refine g_skip rfl (hd 9 _ rfl rfl rfl) rfl rfl ?_
              exact awl_nil ⟨rfl, post_put⟩⟩⟩
          , ⟨_, rfl, fun sl hd hr ho => by
              refine g_skip rfl (hd 9 _ rfl rfl rfl) rfl rfl ?_
              exact awl_nil ⟨rfl, post_put⟩⟩⟩
          , ⟨_, rfl, fun sl hd hr ho => by
              refine g_skip rfl (hd 9 _ rfl rfl rfl) rfl rfl ?_
              exact awl_nil ⟨rfl, post_put⟩⟩⟩
          , ⟨_, rfl, fun sl hd hr ho => by
              refine g_skip rfl (hd 9 _ rfl rfl rfl) rfl rfl ?_
              exact awl_nil ⟨rfl, post_put⟩⟩⟩
          , ⟨_, rfl, fun sl hd hr ho => by
              refine g_skip rfl (hd 9 _ rfl rfl rfl) rfl rfl ?_
              exact awl_nil ⟨rfl, post_put⟩⟩⟩
          , ⟨_, rfl, fun sl hd hr ho => by
              refine g_skip rfl (hd 9 _ rfl rfl rfl) rfl rfl ?_
              exact awl_nil ⟨rfl, post_put⟩⟩⟩
          , ⟨_, rfl, fun sl hd hr ho => by
              refine g_skip rfl (hd 9 _ rfl rfl rfl) rfl rfl ?_
              exact awl_nil ⟨rfl, post_put⟩⟩⟩
          , ⟨_, rfl, fun sl hd hr ho => by
              refine r_pickF (hd 9 _ rfl rfl rfl) rfl rfl rfl ?_
              exact awl_nil ⟨rfl, post_put⟩⟩⟩
          , ⟨_, rfl, fun sl hd hr ho => by
              refine r_move (hd 17 _ rfl rfl rfl) rfl ?_
              exact awl_nil ⟨rfl, post_put⟩⟩⟩
          , ⟨_, rfl, fun sl hd hr ho => by
              refine g_skip rfl (hd 18 _ rfl rfl rfl) rfl rfl ?_
              exact awl_nil ⟨rfl, post_put⟩⟩⟩
          , ⟨_, rfl, fun sl hd hr ho => by
              refine g_skip rfl (hd 18 _ rfl rfl rfl) rfl rfl ?_
              exact awl_nil ⟨rfl, post_put⟩⟩⟩
          , ⟨_, rfl, fun sl hd hr ho => by
              refine g_skip rfl (hd 18 _ rfl rfl rfl) rfl rfl ?_
              exact awl_nil ⟨rfl, post_put⟩⟩⟩
          , ⟨_, rfl, fun sl hd hr ho => by
              refine g_skip rfl (hd 18 _ rfl rfl rfl) rfl rfl ?_
              exact awl_nil ⟨rfl, post_put⟩⟩⟩
          , ⟨_, rfl, fun sl hd hr ho => by
              refine g_skip rfl (hd 18 _ rfl rfl rfl) rfl rfl ?_
              exact awl_nil ⟨rfl, post_put⟩⟩⟩
          , ⟨_, rfl, fun sl hd hr ho => by
              refine g_skip rfl (hd 18 _ rfl rfl rfl) rfl rfl ?_
              exact awl_nil ⟨rfl, post_put⟩⟩⟩
          , ⟨_, rfl, fun sl hd hr ho => by
              refine g_skip rfl (hd 18 _ rfl rfl rfl) rfl rfl ?_
              exact awl_nil ⟨rfl, post_put⟩⟩⟩
          , ⟨_, rfl, fun sl hd hr ho => by
              refine g_skip rfl (hd 18 _ rfl rfl rfl) rfl rfl ?_
              exact awl_nil ⟨rfl, post_put⟩⟩⟩
          , ⟨_, rfl, fun sl hd hr ho => by
              refine g_skip rfl (hd 18 _ rfl rfl rfl) rfl rfl ?_
              exact awl_nil ⟨rfl, post_put⟩⟩⟩
          , ⟨_, rfl, fun sl hd hr ho => by
              refine g_skip rfl (hd 18 _ rfl rfl rfl) rfl rfl ?_
              exact awl_nil ⟨rfl, post_put⟩⟩⟩
          (by rfl) ?_
        refine g_skip rfl rfl rfl rfl ?_
        refine r_pickF rfl rfl rfl rfl ?_
        refine awl_nil ?_
        refine x_then ?_
        refine awp_condF rfl ?_
        refine awp_skip ?_
        refine x_block ?_
        refine x_then ?_
        refine awp_region ?_
        refine r_move rfl rfl ?_
        refine r_ari _ rfl rfl rfl (wrap_id (by first | omega | (simp; omega))) rfl ?_
        refine r_assign rfl rfl ?_
        refine awl_nil ?_
        refine x_then ?_
        refine ⟨(wentF b a).length - (k + 1), ⟨175, [(0, .a (files a)), (1, .a (files b)), (5, .a (files (onlyS a b))), (6, .a (files (onlyS b a))), (7, .a (.v (.slice (some ⟨b26, 0, none⟩) (wentF b a).length (wentF b a).length))), (8, .own 27 4 (out.map FC.cs)), (9, .own 28 4 (gone.map FC.cs)), (10, .a (.v (.int .i64 ((i : Int))))), (11, .a (.v (.int .i64 (optI ((((wentF b a).zip tk).take (k + 1)).findIdx? (hitZ (hitF a b s))))))), (12, .a (.v (.int .i64 (((k + 1) : Int)))))], [⟨b26, true, .box (tk.map fun x => AV.v (.bool x))⟩]⟩, ⟨rfl, (Slots.cons rfl (by first | exact .refl _ | exact .nilOwn _ _ | exact .nilSl _ | exact .ownSl _ _ _  | exact SV.le.ownEq (by rw [hto]; first | done | rfl) | exact SV.le.of_eq (by rw [hto]; first | done | rfl)) (Slots.cons rfl (by first | exact .refl _ | exact .nilOwn _ _ | exact .nilSl _ | exact .ownSl _ _ _  | exact SV.le.ownEq (by rw [hto]; first | done | rfl) | exact SV.le.of_eq (by rw [hto]; first | done | rfl)) (Slots.cons rfl (by first | exact .refl _ | exact .nilOwn _ _ | exact .nilSl _ | exact .ownSl _ _ _  | exact SV.le.ownEq (by rw [hto]; first | done | rfl) | exact SV.le.of_eq (by rw [hto]; first | done | rfl)) (Slots.cons rfl (by first | exact .refl _ | exact .nilOwn _ _ | exact .nilSl _ | exact .ownSl _ _ _  | exact SV.le.ownEq (by rw [hto]; first | done | rfl) | exact SV.le.of_eq (by rw [hto]; first | done | rfl)) (Slots.cons rfl (by first | exact .refl _ | exact .nilOwn _ _ | exact .nilSl _ | exact .ownSl _ _ _  | exact SV.le.ownEq (by rw [hto]; first | done | rfl) | exact SV.le.of_eq (by rw [hto]; first | done | rfl)) (Slots.cons rfl (by first | exact .refl _ | exact .nilOwn _ _ | exact .nilSl _ | exact .ownSl _ _ _  | exact SV.le.ownEq (by rw [hto]; first | done | rfl) | exact SV.le.of_eq (by rw [hto]; first | done | rfl)) (Slots.cons rfl (by first | exact .refl _ | exact .nilOwn _ _ | exact .nilSl _ | exact .ownSl _ _ _  | exact SV.le.ownEq (by rw [hto]; first | done | rfl) | exact SV.le.of_eq (by rw [hto]; first | done | rfl)) (Slots.cons rfl (by first | exact .refl _ | exact .nilOwn _ _ | exact .nilSl _ | exact .ownSl _ _ _  | exact SV.le.ownEq (by rw [hto]; first | done | rfl) | exact SV.le.of_eq (by rw [hto]; first | done | rfl)) (Slots.cons rfl (by first | exact .refl _ | exact .nilOwn _ _ | exact .nilSl _ | exact .ownSl _ _ _  | exact SV.le.ownEq (by rw [hto]; first | done | rfl) | exact SV.le.of_eq (by rw [hto]; first | done | rfl)) (Slots.cons rfl (by first | exact .refl _ | exact .nilOwn _ _ | exact .nilSl _ | exact .ownSl _ _ _  | exact SV.le.ownEq (by rw [hto]; first | done | rfl) | exact SV.le.of_eq (by rw [hto]; first | done | rfl)) Slots.nil)))))))))), (by first | exact List.Sublist.refl _ | exact .cons_cons _ (.cons _ (.refl _)) | exact List.nil_sublist _ | exact .cons _ (.refl _) | exact .cons _ (.cons _ (.refl _)) | exact .cons _ (.cons _ (.cons _ (.refl _))) | exact .cons _ (.cons _ (.cons _ (.cons _ (.refl _)))) | exact .cons_cons _ (List.nil_sublist _))⟩, (by omega), ⟨k + 1, rfl, rfl, (by omega)⟩⟩
    ·
      have hgek : (wentF b a).length ≤ k := by have := of_decide_eq_false hc1; simp [onlyS] at this; omega
      have hzl : ((wentF b a).zip tk).take k = ((wentF b a).zip tk) := List.take_of_length_le (by simp; omega)
      rw [hzl]
      refine awp_exit ?_
      refine x_thenE ?_
      refine x_thenE ?_
      refine x_blockE ?_
      refine x_then ?_
      refine awp_seq ?_
      refine awp_region ?_
      refine r_move rfl rfl ?_
      refine r_cmp rfl rfl rfl rfl ?_
      refine awl_nil ?_
      refine x_then ?_
      refine awp_cond rfl (fun hc3 => ?_) (fun hc3 => ?_)
      ·
        obtain ⟨k, hkk⟩ := optI_some (of_decide_eq_true hc3)
        obtain ⟨i0, t0, hf1, hf2, hf3, hf4⟩ := keep_some hkk
        have hok : optI (((wentF b a).zip tk).findIdx? (hitZ (hitF a b s))) = (k : Int) := by rw [hkk]; rfl
        rw [hok]
        have hkl := (List.getElem?_eq_some_iff.1 hf3).1
        have holl := only_len b a
        refine awp_seq ?_
        refine awp_region ?_
        refine r_move rfl rfl ?_
        refine r_move rfl rfl ?_
        refine r_indexV rfl rfl TF.sl67 TF.sz4 (by omega) (by omega) rfl ?_
        refine r_store 0 rfl rfl rfl TF.sz4 rfl (by simp; omega) rfl ?_
        refine awl_nil ?_
        refine x_then ?_
        refine awp_drawS [78, 79, 80, 81, 82, 83, 84, 85, 86, 87, 88, 89, 90] [_, _, _, _, _, _, _, _, _, _, _, _, _] [] [(12, 90)] TF.mixed rfl rfl rfl ⟨⟨⟨⟨⟨⟨⟨⟨⟨⟨⟨⟨⟨trivial
          , ⟨_, rfl, fun sl hd hr ho => by
              refine r_move (hr 8 _ rfl rfl rfl) rfl ?_
              exact awl_nil ⟨rfl, post_put⟩⟩⟩
          , ⟨_, rfl, fun sl hd hr ho => by
              refine r_move (hr 5 _ rfl rfl rfl) rfl ?_
              exact awl_nil ⟨rfl, post_put⟩⟩⟩
          , ⟨_, rfl, fun sl hd hr ho => by
              refine r_move (hr 10 _ rfl rfl rfl) rfl ?_
              exact awl_nil ⟨rfl, post_put⟩⟩⟩
          , ⟨_, rfl, fun sl hd hr ho => by
              refine r_index (hd 1 _ rfl rfl rfl) rfl (hd 2 _ rfl rfl rfl) TF.sl22 TF.sz54 (by omega) (get_map (only_get hs)) rfl ?_
              exact awl_nil ⟨rfl, post_put⟩⟩⟩
          , ⟨_, rfl, fun sl hd hr ho => by
              first | (refine r_fieldcp (hd 3 _ rfl rfl rfl) TF.f54_0 TF.sz9 rfl ?_) | (refine r_fieldb (hd 3 _ rfl rfl rfl) TF.f54_0 TF.sz9 rfl ?_)
              exact awl_nil ⟨rfl, post_put⟩⟩⟩
          , ⟨_, rfl, fun sl hd hr ho => by
              first | (refine r_load1 (hd 4 _ rfl rfl rfl) TF.agg9 rfl ?_) | (refine r_load1b 0 (hd 4 _ rfl rfl rfl) rfl rfl TF.agg9 rfl ?_)
              exact awl_nil ⟨rfl, post_put⟩⟩⟩
          , ⟨_, rfl, fun sl hd hr ho => by
              refine r_move (hr 6 _ rfl rfl rfl) rfl ?_
              exact awl_nil ⟨rfl, post_put⟩⟩⟩
          , ⟨_, rfl, fun sl hd hr ho => by
              refine r_move (hr 11 _ rfl rfl rfl) rfl ?_
              exact awl_nil ⟨rfl, post_put⟩⟩⟩
          , ⟨_, rfl, fun sl hd hr ho => by
              refine r_index (hd 6 _ rfl rfl rfl) rfl (hd 7 _ rfl rfl rfl) TF.sl22 TF.sz54 (by omega) (get_map (only_get hf3)) rfl ?_
              exact awl_nil ⟨rfl, post_put⟩⟩⟩
          , ⟨_, rfl, fun sl hd hr ho => by
              first | (refine r_fieldcp (hd 8 _ rfl rfl rfl) TF.f54_0 TF.sz9 rfl ?_) | (refine r_fieldb (hd 8 _ rfl rfl rfl) TF.f54_0 TF.sz9 rfl ?_)
              exact awl_nil ⟨rfl, post_put⟩⟩⟩
          , ⟨_, rfl, fun sl hd hr ho => by
              first | (refine r_load1 (hd 9 _ rfl rfl rfl) TF.agg9 rfl ?_) | (refine r_load1b 0 (hd 9 _ rfl rfl rfl) rfl rfl TF.agg9 rfl ?_)
              exact awl_nil ⟨rfl, post_put⟩⟩⟩
          , ⟨_, rfl, fun sl hd hr ho => by
              refine r_build (parts := [(0, .const ((Go.Value.int Go.IntKind.i64 4))), (1, .tmp 83), (2, .tmp 88)]) rfl TF.pl36 TF.zero36 (parts_cons rfl (parts_cons (hd 5 _ rfl rfl rfl) (parts_cons (hd 10 _ rfl rfl rfl) parts_nil))) rfl rfl ?_
              exact awl_nil ⟨rfl, post_put⟩⟩⟩
          , ⟨_, rfl, fun sl hd hr ho => by
              refine r_lit 90 (parts := [(0, .tmp 89)]) rfl TF.sl30 TF.sz36 TF.zraw36 rfl rfl (parts_cons (hd 11 _ rfl rfl rfl) parts_nil) rfl rfl rfl rfl ?_
              exact awl_nil ⟨rfl, (post_dem (ho 90 (List.mem_of_elem_eq_true rfl)))⟩⟩⟩
          (by rfl) ?_
        refine r_append 27 rfl (by first | exact .own _ | exact .nil) rfl (by first | exact .sl _ | exact .own _ _ | exact .nil) TF.sl30 TF.sz36 (by decide) TF.by36 TF.zlen36 (by simp [chunks] <;> omega) (by simp [chunks] <;> omega) rfl ?_
        refine r_assign rfl rfl ?_
        refine awl_nil ?_
        refine x_block ?_
        refine x_then ?_
        refine awp_region ?_
        refine r_move rfl rfl ?_
        refine r_ari _ rfl rfl rfl (wrap_id (by first | omega | (simp; omega))) rfl ?_
        refine r_assign rfl rfl ?_
        refine awl_nil ?_
        refine x_then ?_
        refine ⟨(wentF a b).length - (i + 1), ⟨175, [(0, .a (files a)), (1, .a (files b)), (5, .a (files (onlyS a b))), (6, .a (files (onlyS b a))), (7, .a (.v (.slice (some ⟨b26, 0, none⟩) (wentF b a).length (wentF b a).length))), (8, .own 27 4 ((out ++ [(⟨4, s, t0, []⟩ : FC)]).map FC.cs)), (9, .own 28 4 ((gone).map FC.cs)), (10, .a (.v (.int .i64 (((i + 1) : Int)))))], [⟨b26, true, .box ((tk.set k true).map fun x => AV.v (.bool x))⟩]⟩, ⟨rfl, (Slots.cons rfl (by first | exact .refl _ | exact .nilOwn _ _ | exact .nilSl _ | exact .ownSl _ _ _  | exact SV.le.ownEq (by first | rfl | (rw [List.map_append]; rfl)) | exact SV.le.of_eq (by first | rfl | (rw [List.map_append]; rfl))) (Slots.cons rfl (by first | exact .refl _ | exact .nilOwn _ _ | exact .nilSl _ | exact .ownSl _ _ _  | exact SV.le.ownEq (by first | rfl | (rw [List.map_append]; rfl)) | exact SV.le.of_eq (by first | rfl | (rw [List.map_append]; rfl))) (Slots.cons rfl (by first | exact .refl _ | exact .nilOwn _ _ | exact .nilSl _ | exact .ownSl _ _ _  | exact SV.le.ownEq (by first | rfl | (rw [List.map_append]; rfl)) | exact SV.le.of_eq (by first | rfl | (rw [List.map_append]; rfl))) (Slots.cons rfl (by first | exact .refl _ | exact .nilOwn _ _ | exact .nilSl _ | exact .ownSl _ _ _  | exact SV.le.ownEq (by first | rfl | (rw [List.map_append]; rfl)) | exact SV.le.of_eq (by first | rfl | (rw [List.map_append]; rfl))) (Slots.cons rfl (by first | exact .refl _ | exact .nilOwn _ _ | exact .nilSl _ | exact .ownSl _ _ _  | exact SV.le.ownEq (by first | rfl | (rw [List.map_append]; rfl)) | exact SV.le.of_eq (by first | rfl | (rw [List.map_append]; rfl))) (Slots.cons rfl (by first | exact .refl _ | exact .nilOwn _ _ | exact .nilSl _ | exact .ownSl _ _ _  | exact SV.le.ownEq (by first | rfl | (rw [List.map_append]; rfl)) | exact SV.le.of_eq (by first | rfl | (rw [List.map_append]; rfl))) (Slots.cons rfl (by first | exact .refl _ | exact .nilOwn _ _ | exact .nilSl _ | exact .ownSl _ _ _  | exact SV.le.ownEq (by first | rfl | (rw [List.map_append]; rfl)) | exact SV.le.of_eq (by first | rfl | (rw [List.map_append]; rfl))) (Slots.cons rfl (by first | exact .refl _ | exact .nilOwn _ _ | exact .nilSl _ | exact .ownSl _ _ _  | exact SV.le.ownEq (by first | rfl | (rw [List.map_append]; rfl)) | exact SV.le.of_eq (by first | rfl | (rw [List.map_append]; rfl))) Slots.nil)))))))), (by rw [← tk_set (k := k) (by omega)]; exact List.Sublist.refl _)⟩, (by omega), ⟨i + 1, out ++ [(⟨4, s, t0, []⟩ : FC)], gone, tk.set k true, rfl, rfl, (by omega), (by simpa using htl), (by rw [hf4]; exact split_some hs hst hf1 hf2), (by simp; omega), (by omega)⟩⟩
      ·
        have hno : (keepB (wentF b a) tk).findIdx? (hitF a b s) = none := keep_none (optI_none (by have := of_decide_eq_false hc3; omega))
        refine awp_region ?_
        refine r_move rfl rfl ?_
        refine r_move rfl rfl ?_
        refine r_move rfl rfl ?_
        refine r_index rfl rfl rfl TF.sl22 TF.sz54 (by omega) (get_map (only_get hs)) rfl ?_
        first | (refine r_fieldcp rfl TF.f54_0 TF.sz9 rfl ?_) | (refine r_fieldb rfl TF.f54_0 TF.sz9 rfl ?_)
        first | (refine r_load1 rfl TF.agg9 rfl ?_) | (refine r_load1b 0 rfl rfl rfl TF.agg9 rfl ?_)
        refine r_build (parts := [(0, .const ((Go.Value.int Go.IntKind.i64 2))), (1, .tmp 97)]) rfl TF.pl36 TF.zero36 rfl rfl rfl ?_
        refine r_lit 99 (parts := [(0, .tmp 98)]) rfl TF.sl30 TF.sz36 TF.zraw36 rfl rfl rfl rfl rfl rfl rfl ?_
        refine r_append 28 rfl (by first | exact .own _ | exact .nil) rfl (by first | exact .sl _ | exact .own _ _ | exact .nil) TF.sl30 TF.sz36 (by decide) TF.by36 TF.zlen36 (by simp [chunks] <;> omega) (by simp [chunks] <;> omega) rfl ?_
        refine r_assign rfl rfl ?_
        refine awl_nil ?_
        refine x_block ?_
        refine x_then ?_
        refine awp_region ?_
        refine r_move rfl rfl ?_
        refine r_ari _ rfl rfl rfl (wrap_id (by first | omega | (simp; omega))) rfl ?_
        refine r_assign rfl rfl ?_
        refine awl_nil ?_
        refine x_then ?_
        refine ⟨(wentF a b).length - (i + 1), ⟨175, [(0, .a (files a)), (1, .a (files b)), (5, .a (files (onlyS a b))), (6, .a (files (onlyS b a))), (7, .a (.v (.slice (some ⟨b26, 0, none⟩) (wentF b a).length (wentF b a).length))), (8, .own 27 4 ((out).map FC.cs)), (9, .own 28 4 ((gone ++ [(⟨2, s, E0, []⟩ : FC)]).map FC.cs)), (10, .a (.v (.int .i64 (((i + 1) : Int)))))], [⟨b26, true, .box ((tk).map fun x => AV.v (.bool x))⟩]⟩, ⟨rfl, (Slots.cons rfl (by first | exact .refl _ | exact .nilOwn _ _ | exact .nilSl _ | exact .ownSl _ _ _  | exact SV.le.ownEq (by first | rfl | (rw [List.map_append]; rfl)) | exact SV.le.of_eq (by first | rfl | (rw [List.map_append]; rfl))) (Slots.cons rfl (by first | exact .refl _ | exact .nilOwn _ _ | exact .nilSl _ | exact .ownSl _ _ _  | exact SV.le.ownEq (by first | rfl | (rw [List.map_append]; rfl)) | exact SV.le.of_eq (by first | rfl | (rw [List.map_append]; rfl))) (Slots.cons rfl (by first | exact .refl _ | exact .nilOwn _ _ | exact .nilSl _ | exact .ownSl _ _ _  | exact SV.le.ownEq (by first | rfl | (rw [List.map_append]; rfl)) | exact SV.le.of_eq (by first | rfl | (rw [List.map_append]; rfl))) (Slots.cons rfl (by first | exact .refl _ | exact .nilOwn _ _ | exact .nilSl _ | exact .ownSl _ _ _  | exact SV.le.ownEq (by first | rfl | (rw [List.map_append]; rfl)) | exact SV.le.of_eq (by first | rfl | (rw [List.map_append]; rfl))) (Slots.cons rfl (by first | exact .refl _ | exact .nilOwn _ _ | exact .nilSl _ | exact .ownSl _ _ _  | exact SV.le.ownEq (by first | rfl | (rw [List.map_append]; rfl)) | exact SV.le.of_eq (by first | rfl | (rw [List.map_append]; rfl))) (Slots.cons rfl (by first | exact .refl _ | exact .nilOwn _ _ | exact .nilSl _ | exact .ownSl _ _ _  | exact SV.le.ownEq (by first | rfl | (rw [List.map_append]; rfl)) | exact SV.le.of_eq (by first | rfl | (rw [List.map_append]; rfl))) (Slots.cons rfl (by first | exact .refl _ | exact .nilOwn _ _ | exact .nilSl _ | exact .ownSl _ _ _  | exact SV.le.ownEq (by first | rfl | (rw [List.map_append]; rfl)) | exact SV.le.of_eq (by first | rfl | (rw [List.map_append]; rfl))) (Slots.cons rfl (by first | exact .refl _ | exact .nilOwn _ _ | exact .nilSl _ | exact .ownSl _ _ _  | exact SV.le.ownEq (by first | rfl | (rw [List.map_append]; rfl)) | exact SV.le.of_eq (by first | rfl | (rw [List.map_append]; rfl))) Slots.nil)))))))), (by first | exact List.Sublist.refl _ | exact .cons_cons _ (.cons _ (.refl _)) | exact List.nil_sublist _ | exact .cons _ (.refl _) | exact .cons _ (.cons _ (.refl _)) | exact .cons _ (.cons _ (.cons _ (.refl _))) | exact .cons _ (.cons _ (.cons _ (.cons _ (.refl _)))) | exact .cons_cons _ (List.nil_sublist _))⟩, (by omega), ⟨i + 1, out, gone ++ [(⟨2, s, E0, []⟩ : FC)], tk, rfl, rfl, (by omega), htl, (split_none hs hst hno), (by omega), (by simp; omega)⟩⟩
  ·
    have hgei : (wentF a b).length ≤ i := by have := of_decide_eq_false hc0; simp [onlyS] at this; omega
    obtain rfl : i = (wentF a b).length := by omega
    refine awp_exit ?_
    refine x_thenE ?_
    refine x_thenE ?_
    refine x_blockE ?_
    refine x_then ?_
    refine awp_seq ?_
    refine awp_region ?_
    refine r_move rfl rfl ?_
    refine r_move rfl rfl ?_
    refine r_append 27 rfl (by first | exact .own _ | exact .nil) rfl (by first | exact .sl _ | exact .own _ _ | exact .nil) TF.sl30 TF.sz36 (by decide) TF.by36 TF.zlen36 (by simp [chunks] <;> omega) (by simp [chunks] <;> omega) rfl ?_
    refine r_assign rfl rfl ?_
    refine awl_nil ?_
    refine x_then ?_
    refine awp_seq ?_
    refine awp_region ?_
    refine r_move rfl rfl ?_
    refine r_call0 hq rfl rfl (.cons (.ev rfl rfl) .nil) (rclean_ok a hla) rfl TF.en21 rfl (fun r hr => ?_)
    obtain rfl := hr
    refine r_assign rfl rfl ?_
    refine awl_nil ?_
    refine x_then ?_
    refine awp_seq ?_
    refine awp_seq ?_
    refine awp_region ?_
    refine r_assign rfl rfl ?_
    refine awl_nil ?_
    refine x_then ?_
    refine awp_block ?_
    refine awp_loop (fun nn0 S => ∃ k : Nat, S = ⟨175, [(1, .a (files b)), (6, .a (files (onlyS b a))), (7, .a (.v (.slice (some ⟨b26, 0, none⟩) (wentF b a).length (wentF b a).length))), (13, .own 27 4 (((out ++ gone) ++ ((namesF a).take k).filterMap (chgF a b)).map FC.cs)), (14, .a (files (cleanS a))), (15, .a (.v (.int .i64 ((k : Int)))))], [⟨b26, true, .box (tk.map fun x => AV.v (.bool x))⟩]⟩ ∧ nn0 = (namesF a).length - k ∧ (k ≤ (namesF a).length)) ((namesF a).length - (0)) ⟨175, [(1, .a (files b)), (6, .a (files (onlyS b a))), (7, .a (.v (.slice (some ⟨b26, 0, none⟩) (wentF b a).length (wentF b a).length))), (13, .own 27 4 (((out ++ gone) ++ ((namesF a).take (0)).filterMap (chgF a b)).map FC.cs)), (14, .a (files (cleanS a))), (15, .a (.v (.int .i64 (((0) : Int)))))], [⟨b26, true, .box (tk.map fun x => AV.v (.bool x))⟩]⟩ ⟨rfl, (Slots.cons rfl (by first | exact .refl _ | exact .nilOwn _ _ | exact .nilSl _ | exact .ownSl _ _ _  | exact SV.le.ownEq (by simp) | exact SV.le.of_eq (by simp)) (Slots.cons rfl (by first | exact .refl _ | exact .nilOwn _ _ | exact .nilSl _ | exact .ownSl _ _ _  | exact SV.le.ownEq (by simp) | exact SV.le.of_eq (by simp)) (Slots.cons rfl (by first | exact .refl _ | exact .nilOwn _ _ | exact .nilSl _ | exact .ownSl _ _ _  | exact SV.le.ownEq (by simp) | exact SV.le.of_eq (by simp)) (Slots.cons rfl (by first | exact .refl _ | exact .nilOwn _ _ | exact .nilSl _ | exact .ownSl _ _ _  | exact SV.le.ownEq (by simp) | exact SV.le.of_eq (by simp)) (Slots.cons rfl (by first | exact .refl _ | exact .nilOwn _ _ | exact .nilSl _ | exact .ownSl _ _ _  | exact SV.le.ownEq (by simp) | exact SV.le.of_eq (by simp)) (Slots.cons rfl (by first | exact .refl _ | exact .nilOwn _ _ | exact .nilSl _ | exact .ownSl _ _ _  | exact SV.le.ownEq (by simp) | exact SV.le.of_eq (by simp)) Slots.nil)))))), (by first | exact List.Sublist.refl _ | exact .cons_cons _ (.cons _ (.refl _)) | exact List.nil_sublist _ | exact .cons _ (.refl _) | exact .cons _ (.cons _ (.refl _)) | exact .cons _ (.cons _ (.cons _ (.refl _))) | exact .cons _ (.cons _ (.cons _ (.cons _ (.refl _)))) | exact .cons_cons _ (List.nil_sublist _))⟩ ⟨0, rfl, rfl, Nat.zero_le _⟩ ?_
    rintro nn0 _ ⟨k, rfl, rfl, hk⟩
    refine awp_seq ?_
    refine awp_seq ?_
    refine awp_region ?_
    refine r_move rfl rfl ?_
    refine r_move rfl rfl ?_
    first | (refine r_lenS rfl rfl TF.sl22 rfl ?_) | (refine r_lenNil rfl TF.sl22 rfl ?_) | (refine r_lenV rfl TF.sl22 rfl ?_)
    refine r_cmp rfl rfl rfl rfl ?_
    refine awl_nil ?_
    refine x_then ?_
    refine awp_cond rfl (fun hc4 => ?_) (fun hc4 => ?_)
    ·
      have hltk : k < (namesF a).length := by have := of_decide_eq_true hc4; simp [clean_map] at this; omega
      obtain ⟨x, hx⟩ := get_lt hltk
      have hf1 : (((namesF a).take k).filterMap (chgF a b)).length ≤ k := Nat.le_trans (List.length_filterMap_le _ _) (by simp; omega)
      refine awp_skip ?_
      refine x_then ?_
      refine awp_seq ?_
      refine awp_block ?_
      refine awp_seq ?_
      refine awp_region ?_
      refine r_move rfl rfl ?_
      refine r_move rfl rfl ?_
      refine r_move rfl rfl ?_
      refine r_index rfl rfl rfl TF.sl22 TF.sz54 (by omega) (get_map (clean_get hx)) rfl ?_
      first | (refine r_fieldcp rfl TF.f54_0 TF.sz9 rfl ?_) | (refine r_fieldb rfl TF.f54_0 TF.sz9 rfl ?_)
      first | (refine r_load1 rfl TF.agg9 rfl ?_) | (refine r_load1b 0 rfl rfl rfl TF.agg9 rfl ?_)
      refine r_call0 hq rfl rfl (.cons (.ev rfl rfl) (.cons (.ev rfl rfl) .nil)) (find_ok b x (by omega)) rfl TF.en33 rfl (fun r hr => ?_)
      obtain rfl := hr
      rcases hfo : b.findIdx? (fun f => decide (f.name = x)) with _ | iy
      
      ·
        rw [hfo]
        have hlk := find_none_look hfo
        have ht : chgF a b x = none := by rw [chgF, hlk]
        refine r_assign rfl rfl ?_
        refine awl_nil ?_
        refine x_then ?_
        refine awp_seq ?_
        refine awp_drawS [119, 120, 121, 122, 123, 124, 125, 126, 127, 128, 129, 130, 131] [_, _, _, _, _, _, _, _, _, _, _, _, _] [] [] TF.mixed rfl rfl rfl ⟨⟨⟨⟨⟨⟨⟨⟨⟨⟨⟨⟨⟨trivial
          , ⟨_, rfl, fun sl hd hr ho => by
              refine r_move (hr 16 _ rfl rfl rfl) rfl ?_
              exact awl_nil ⟨rfl, post_put⟩⟩⟩
          , ⟨_, rfl, fun sl hd hr ho => by
              refine r_cmp (hd 0 _ rfl rfl rfl) rfl rfl rfl ?_
              exact awl_nil ⟨rfl, post_put⟩⟩⟩
          , ⟨_, rfl, fun sl hd hr ho => by
              refine r_move (hd 1 _ rfl rfl rfl) rfl ?_
              exact awl_nil ⟨rfl, post_put⟩⟩⟩
          , ⟨_, rfl, fun sl hd hr ho => by
              refine g_skip rfl (hd 2 _ rfl rfl rfl) rfl rfl ?_
              exact awl_nil ⟨rfl, post_put⟩⟩⟩
          , ⟨_, rfl, fun sl hd hr ho => by
              refine g_skip rfl (hd 2 _ rfl rfl rfl) rfl rfl ?_
              exact awl_nil ⟨rfl, post_put⟩⟩⟩
          , ⟨_, rfl, fun sl hd hr ho => by
              refine g_skip rfl (hd 2 _ rfl rfl rfl) rfl rfl ?_
              exact awl_nil ⟨rfl, post_put⟩⟩⟩
          , ⟨_, rfl, fun sl hd hr ho => by
              refine g_skip rfl (hd 2 _ rfl rfl rfl) rfl rfl ?_
              exact awl_nil ⟨rfl, post_put⟩⟩⟩
          , ⟨_, rfl, fun sl hd hr ho => by
              refine g_skip rfl (hd 2 _ rfl rfl rfl) rfl rfl ?_
              exact awl_nil ⟨rfl, post_put⟩⟩⟩
          , ⟨_, rfl, fun sl hd hr ho => by
              refine g_skip rfl (hd 2 _ rfl rfl rfl) rfl rfl ?_
              exact awl_nil ⟨rfl, post_put⟩⟩⟩
          , ⟨_, rfl, fun sl hd hr ho => by
              refine g_skip rfl (hd 2 _ rfl rfl rfl) rfl rfl ?_
              exact awl_nil ⟨rfl, post_put⟩⟩⟩
          , ⟨_, rfl, fun sl hd hr ho => by
              refine g_skip rfl (hd 2 _ rfl rfl rfl) rfl rfl ?_
              exact awl_nil ⟨rfl, post_put⟩⟩⟩
          , ⟨_, rfl, fun sl hd hr ho => by
              refine g_skip rfl (hd 2 _ rfl rfl rfl) rfl rfl ?_
              exact awl_nil ⟨rfl, post_put⟩⟩⟩
          , ⟨_, rfl, fun sl hd hr ho => by
              refine g_skip rfl (hd 2 _ rfl rfl rfl) rfl rfl ?_
              exact awl_nil ⟨rfl, post_put⟩⟩⟩
          (by rfl) ?_
        refine g_skip rfl rfl rfl rfl ?_
        refine g_skip rfl rfl rfl rfl ?_
        refine r_pickF rfl rfl rfl rfl ?_
        refine awl_nil ?_
        refine x_then ?_
        refine awp_condF rfl ?_
        refine awp_skip ?_
        refine x_block ?_
        refine x_then ?_
        refine awp_region ?_
        refine r_move rfl rfl ?_
        refine r_ari _ rfl rfl rfl (wrap_id (by first | omega | (simp; omega))) rfl ?_
        refine r_assign rfl rfl ?_
        refine awl_nil ?_
        refine x_then ?_
        have et := fmS_step (f := chgF a b) hx
        rw [ht] at et
        simp only [Option.toList_some, Option.toList_none, List.append_nil] at et
        refine ⟨(namesF a).length - (k + 1), ⟨175, [(1, .a (files b)), (6, .a (files (onlyS b a))), (7, .a (.v (.slice (some ⟨b26, 0, none⟩) (wentF b a).length (wentF b a).length))), (13, .own 27 4 (((out ++ gone) ++ ((namesF a).take (k + 1)).filterMap (chgF a b)).map FC.cs)), (14, .a (files (cleanS a))), (15, .a (.v (.int .i64 (((k + 1) : Int)))))], [⟨b26, true, .box (tk.map fun x => AV.v (.bool x))⟩]⟩, ⟨rfl, (Slots.cons rfl (by first | exact .refl _ | exact .nilOwn _ _ | exact .nilSl _ | exact .ownSl _ _ _  | exact SV.le.ownEq (by first | rfl | (rw [et, ← List.append_assoc (out ++ gone), List.map_append (l₁ := ((out ++ gone) ++ ((namesF a).take k).filterMap (chgF a b)))]; rfl) | (rw [et]; first | done | rfl)) | exact SV.le.of_eq (by first | rfl | (rw [et, ← List.append_assoc (out ++ gone), List.map_append (l₁ := ((out ++ gone) ++ ((namesF a).take k).filterMap (chgF a b)))]; rfl) | (rw [et]; first | done | rfl))) (Slots.cons rfl (by first | exact .refl _ | exact .nilOwn _ _ | exact .nilSl _ | exact .ownSl _ _ _  | exact SV.le.ownEq (by first | rfl | (rw [et, ← List.append_assoc (out ++ gone), List.map_append (l₁ := ((out ++ gone) ++ ((namesF a).take k).filterMap (chgF a b)))]; rfl) | (rw [et]; first | done | rfl)) | exact SV.le.of_eq (by first | rfl | (rw [et, ← List.append_assoc (out ++ gone), List.map_append (l₁ := ((out ++ gone) ++ ((namesF a).take k).filterMap (chgF a b)))]; rfl) | (rw [et]; first | done | rfl))) (Slots.cons rfl (by first | exact .refl _ | exact .nilOwn _ _ | exact .nilSl _ | exact .ownSl _ _ _  | exact SV.le.ownEq (by first | rfl | (rw [et, ← List.append_assoc (out ++ gone), List.map_append (l₁ := ((out ++ gone) ++ ((namesF a).take k).filterMap (chgF a b)))]; rfl) | (rw [et]; first | done | rfl)) | exact SV.le.of_eq (by first | rfl | (rw [et, ← List.append_assoc (out ++ gone), List.map_append (l₁ := ((out ++ gone) ++ ((namesF a).take k).filterMap (chgF a b)))]; rfl) | (rw [et]; first | done | rfl))) (Slots.cons rfl (by first | exact .refl _ | exact .nilOwn _ _ | exact .nilSl _ | exact .ownSl _ _ _  | exact SV.le.ownEq (by first | rfl | (rw [et, ← List.append_assoc (out ++ gone), List.map_append (l₁ := ((out ++ gone) ++ ((namesF a).take k).filterMap (chgF a b)))]; rfl) | (rw [et]; first | done | rfl)) | exact SV.le.of_eq (by first | rfl | (rw [et, ← List.append_assoc (out ++ gone), List.map_append (l₁ := ((out ++ gone) ++ ((namesF a).take k).filterMap (chgF a b)))]; rfl) | (rw [et]; first | done | rfl))) (Slots.cons rfl (by first | exact .refl _ | exact .nilOwn _ _ | exact .nilSl _ | exact .ownSl _ _ _  | exact SV.le.ownEq (by first | rfl | (rw [et, ← List.append_assoc (out ++ gone), List.map_append (l₁ := ((out ++ gone) ++ ((namesF a).take k).filterMap (chgF a b)))]; rfl) | (rw [et]; first | done | rfl)) | exact SV.le.of_eq (by first | rfl | (rw [et, ← List.append_assoc (out ++ gone), List.map_append (l₁ := ((out ++ gone) ++ ((namesF a).take k).filterMap (chgF a b)))]; rfl) | (rw [et]; first | done | rfl))) (Slots.cons rfl (by first | exact .refl _ | exact .nilOwn _ _ | exact .nilSl _ | exact .ownSl _ _ _  | exact SV.le.ownEq (by first | rfl | (rw [et, ← List.append_assoc (out ++ gone), List.map_append (l₁ := ((out ++ gone) ++ ((namesF a).take k).filterMap (chgF a b)))]; rfl) | (rw [et]; first | done | rfl)) | exact SV.le.of_eq (by first | rfl | (rw [et, ← List.append_assoc (out ++ gone), List.map_append (l₁ := ((out ++ gone) ++ ((namesF a).take k).filterMap (chgF a b)))]; rfl) | (rw [et]; first | done | rfl))) Slots.nil)))))), (by first | exact List.Sublist.refl _ | exact .cons_cons _ (.cons _ (.refl _)) | exact List.nil_sublist _ | exact .cons _ (.refl _) | exact .cons _ (.cons _ (.refl _)) | exact .cons _ (.cons _ (.cons _ (.refl _))) | exact .cons _ (.cons _ (.cons _ (.cons _ (.refl _)))) | exact .cons_cons _ (List.nil_sublist _))⟩, (by omega), ⟨k + 1, rfl, rfl, (by omega)⟩⟩
      ·
        rw [hfo]
        obtain ⟨y, hy, hyn, hlk⟩ := find_some_look hfo
        have hoi : optI (some iy) = (iy : Int) := rfl
        rw [hoi]
        refine r_assign rfl rfl ?_
        refine awl_nil ?_
        refine x_then ?_
        refine awp_seq ?_
        refine awp_drawS [119, 120, 121, 122, 123, 124, 125, 126, 127, 128, 129, 130, 131] [_, _, _, _, _, _, _, _, _, _, _, _, _] [] [] TF.mixed rfl rfl rfl ⟨⟨⟨⟨⟨⟨⟨⟨⟨⟨⟨⟨⟨trivial
          , ⟨_, rfl, fun sl hd hr ho => by
              refine r_move (hr 16 _ rfl rfl rfl) rfl ?_
              exact awl_nil ⟨rfl, post_put⟩⟩⟩
          , ⟨_, rfl, fun sl hd hr ho => by
              refine r_cmp (hd 0 _ rfl rfl rfl) rfl rfl rfl ?_
              exact awl_nil ⟨rfl, post_put⟩⟩⟩
          , ⟨_, rfl, fun sl hd hr ho => by
              refine r_move (hd 1 _ rfl rfl rfl) rfl ?_
              exact awl_nil ⟨rfl, post_put⟩⟩⟩
          , ⟨_, rfl, fun sl hd hr ho => by
              refine g_run rfl (hd 2 _ rfl rfl rfl) (by simp) ?_
              refine r_move (hr 14 _ rfl rfl rfl) rfl ?_
              exact awl_nil ⟨rfl, post_put⟩⟩⟩
          , ⟨_, rfl, fun sl hd hr ho => by
              refine g_run rfl (hd 2 _ rfl rfl rfl) (by simp) ?_
              refine r_move (hr 15 _ rfl rfl rfl) rfl ?_
              exact awl_nil ⟨rfl, post_put⟩⟩⟩
          , ⟨_, rfl, fun sl hd hr ho => by
              refine g_run rfl (hd 2 _ rfl rfl rfl) (by simp) ?_
              refine r_index (hd 3 _ rfl rfl rfl) rfl (hd 4 _ rfl rfl rfl) TF.sl22 TF.sz54 (by omega) (get_map (clean_get hx)) rfl ?_
              exact awl_nil ⟨rfl, post_put⟩⟩⟩
          , ⟨_, rfl, fun sl hd hr ho => by
              refine g_run rfl (hd 2 _ rfl rfl rfl) (by simp) ?_
              first | (refine r_fieldcp (hd 5 _ rfl rfl rfl) TF.f54_1 TF.sz34 rfl ?_) | (refine r_fieldb (hd 5 _ rfl rfl rfl) TF.f54_1 TF.sz34 rfl ?_)
              exact awl_nil ⟨rfl, post_put⟩⟩⟩
          , ⟨_, rfl, fun sl hd hr ho => by
              refine g_run rfl (hd 2 _ rfl rfl rfl) (by simp) ?_
              first | (refine r_load1 (hd 6 _ rfl rfl rfl) TF.agg34 rfl ?_) | (refine r_load1b 0 (hd 6 _ rfl rfl rfl) rfl rfl TF.agg34 rfl ?_)
              exact awl_nil ⟨rfl, post_put⟩⟩⟩
          , ⟨_, rfl, fun sl hd hr ho => by
              refine g_run rfl (hd 2 _ rfl rfl rfl) (by simp) ?_
              refine r_move (hr 1 _ rfl rfl rfl) rfl ?_
              exact awl_nil ⟨rfl, post_put⟩⟩⟩
          , ⟨_, rfl, fun sl hd hr ho => by
              refine g_run rfl (hd 2 _ rfl rfl rfl) (by simp) ?_
              refine r_move (hr 16 _ rfl rfl rfl) rfl ?_
              exact awl_nil ⟨rfl, post_put⟩⟩⟩
          , ⟨_, rfl, fun sl hd hr ho => by
              refine g_run rfl (hd 2 _ rfl rfl rfl) (by simp) ?_
              refine r_index (hd 8 _ rfl rfl rfl) rfl (hd 9 _ rfl rfl rfl) TF.sl22 TF.sz54 (by omega) (get_map hy) rfl ?_
              exact awl_nil ⟨rfl, post_put⟩⟩⟩
          , ⟨_, rfl, fun sl hd hr ho => by
              refine g_run rfl (hd 2 _ rfl rfl rfl) (by simp) ?_
              first | (refine r_fieldcp (hd 10 _ rfl rfl rfl) TF.f54_1 TF.sz34 rfl ?_) | (refine r_fieldb (hd 10 _ rfl rfl rfl) TF.f54_1 TF.sz34 rfl ?_)
              exact awl_nil ⟨rfl, post_put⟩⟩⟩
          , ⟨_, rfl, fun sl hd hr ho => by
              refine g_run rfl (hd 2 _ rfl rfl rfl) (by simp) ?_
              first | (refine r_load1 (hd 11 _ rfl rfl rfl) TF.agg34 rfl ?_) | (refine r_load1b 0 (hd 11 _ rfl rfl rfl) rfl rfl TF.agg34 rfl ?_)
              exact awl_nil ⟨rfl, post_put⟩⟩⟩
          (by rfl) ?_
        refine g_run rfl rfl (by simp) ?_
        refine r_call0 hq rfl rfl (.cons (.ev rfl rfl) (.cons (.ev rfl rfl) .nil)) (rsame_ok ((lookF a x).getD []) y.data (look_len hdA x) (hdb y (List.mem_of_getElem? hy))) rfl TF.en32 rfl (fun r hr => ?_)
        obtain rfl := hr
        refine g_run rfl rfl (by simp) ?_
        refine r_not rfl rfl ?_
        refine r_pickT rfl (by simp) rfl rfl ?_
        refine awl_nil ?_
        refine x_then ?_
        refine awp_cond rfl (fun hc5 => ?_) (fun hc5 => ?_)
        ·
          have hne : decide ((lookF a x).getD [] = y.data) = false := by simpa using hc5
          have ht : chgF a b x = some ⟨3, x, E0, y.data⟩ := by rw [chgF, hlk]; simp only [hne, cond_false]
          refine awp_drawS [135, 136, 137, 138, 139, 140, 141, 142, 143, 144, 145, 146, 147] [_, _, _, _, _, _, _, _, _, _, _, _, _] [] [(12, 147)] TF.mixed rfl rfl rfl ⟨⟨⟨⟨⟨⟨⟨⟨⟨⟨⟨⟨⟨trivial
            , ⟨_, rfl, fun sl hd hr ho => by
                refine r_move (hr 13 _ rfl rfl rfl) rfl ?_
                exact awl_nil ⟨rfl, post_put⟩⟩⟩
            , ⟨_, rfl, fun sl hd hr ho => by
                refine r_move (hr 14 _ rfl rfl rfl) rfl ?_
                exact awl_nil ⟨rfl, post_put⟩⟩⟩
            , ⟨_, rfl, fun sl hd hr ho => by
                refine r_move (hr 15 _ rfl rfl rfl) rfl ?_
                exact awl_nil ⟨rfl, post_put⟩⟩⟩
            , ⟨_, rfl, fun sl hd hr ho => by
                refine r_index (hd 1 _ rfl rfl rfl) rfl (hd 2 _ rfl rfl rfl) TF.sl22 TF.sz54 (by omega) (get_map (clean_get hx)) rfl ?_
                exact awl_nil ⟨rfl, post_put⟩⟩⟩
            , ⟨_, rfl, fun sl hd hr ho => by
                first | (refine r_fieldcp (hd 3 _ rfl rfl rfl) TF.f54_0 TF.sz9 rfl ?_) | (refine r_fieldb (hd 3 _ rfl rfl rfl) TF.f54_0 TF.sz9 rfl ?_)
                exact awl_nil ⟨rfl, post_put⟩⟩⟩
            , ⟨_, rfl, fun sl hd hr ho => by
                first | (refine r_load1 (hd 4 _ rfl rfl rfl) TF.agg9 rfl ?_) | (refine r_load1b 0 (hd 4 _ rfl rfl rfl) rfl rfl TF.agg9 rfl ?_)
                exact awl_nil ⟨rfl, post_put⟩⟩⟩
            , ⟨_, rfl, fun sl hd hr ho => by
                refine r_move (hr 1 _ rfl rfl rfl) rfl ?_
                exact awl_nil ⟨rfl, post_put⟩⟩⟩
            , ⟨_, rfl, fun sl hd hr ho => by
                refine r_move (hr 16 _ rfl rfl rfl) rfl ?_
                exact awl_nil ⟨rfl, post_put⟩⟩⟩
            , ⟨_, rfl, fun sl hd hr ho => by
                refine r_index (hd 6 _ rfl rfl rfl) rfl (hd 7 _ rfl rfl rfl) TF.sl22 TF.sz54 (by omega) (get_map hy) rfl ?_
                exact awl_nil ⟨rfl, post_put⟩⟩⟩
            , ⟨_, rfl, fun sl hd hr ho => by
                first | (refine r_fieldcp (hd 8 _ rfl rfl rfl) TF.f54_1 TF.sz34 rfl ?_) | (refine r_fieldb (hd 8 _ rfl rfl rfl) TF.f54_1 TF.sz34 rfl ?_)
                exact awl_nil ⟨rfl, post_put⟩⟩⟩
            , ⟨_, rfl, fun sl hd hr ho => by
                first | (refine r_load1 (hd 9 _ rfl rfl rfl) TF.agg34 rfl ?_) | (refine r_load1b 0 (hd 9 _ rfl rfl rfl) rfl rfl TF.agg34 rfl ?_)
                exact awl_nil ⟨rfl, post_put⟩⟩⟩
            , ⟨_, rfl, fun sl hd hr ho => by
                refine r_build (parts := [(0, .const ((Go.Value.int Go.IntKind.i64 3))), (1, .tmp 140), (3, .tmp 145)]) rfl TF.pl36 TF.zero36 (parts_cons rfl (parts_cons (hd 5 _ rfl rfl rfl) (parts_cons (hd 10 _ rfl rfl rfl) parts_nil))) rfl rfl ?_
                exact awl_nil ⟨rfl, post_put⟩⟩⟩
            , ⟨_, rfl, fun sl hd hr ho => by
                refine r_lit 147 (parts := [(0, .tmp 146)]) rfl TF.sl30 TF.sz36 TF.zraw36 rfl rfl (parts_cons (hd 11 _ rfl rfl rfl) parts_nil) rfl rfl rfl rfl ?_
                exact awl_nil ⟨rfl, (post_dem (ho 147 (List.mem_of_elem_eq_true rfl)))⟩⟩⟩
            (by rfl) ?_
          refine r_append 27 rfl (by first | exact .own _ | exact .nil) rfl (by first | exact .sl _ | exact .own _ _ | exact .nil) TF.sl30 TF.sz36 (by decide) TF.by36 TF.zlen36 (by simp [chunks] <;> omega) (by simp [chunks] <;> omega) rfl ?_
          refine r_assign rfl rfl ?_
          refine awl_nil ?_
          refine x_block ?_
          refine x_then ?_
          refine awp_region ?_
          refine r_move rfl rfl ?_
          refine r_ari _ rfl rfl rfl (wrap_id (by first | omega | (simp; omega))) rfl ?_
          refine r_assign rfl rfl ?_
          refine awl_nil ?_
          refine x_then ?_
          have et := fmS_step (f := chgF a b) hx
          rw [ht] at et
          simp only [Option.toList_some, Option.toList_none, List.append_nil] at et
          refine ⟨(namesF a).length - (k + 1), ⟨175, [(1, .a (files b)), (6, .a (files (onlyS b a))), (7, .a (.v (.slice (some ⟨b26, 0, none⟩) (wentF b a).length (wentF b a).length))), (13, .own 27 4 (((out ++ gone) ++ ((namesF a).take (k + 1)).filterMap (chgF a b)).map FC.cs)), (14, .a (files (cleanS a))), (15, .a (.v (.int .i64 (((k + 1) : Int)))))], [⟨b26, true, .box (tk.map fun x => AV.v (.bool x))⟩]⟩, ⟨rfl, (Slots.cons rfl (by first | exact .refl _ | exact .nilOwn _ _ | exact .nilSl _ | exact .ownSl _ _ _  | exact SV.le.ownEq (by first | rfl | (rw [et, ← List.append_assoc (out ++ gone), List.map_append (l₁ := ((out ++ gone) ++ ((namesF a).take k).filterMap (chgF a b)))]; rfl) | (rw [et]; first | done | rfl)) | exact SV.le.of_eq (by first | rfl | (rw [et, ← List.append_assoc (out ++ gone), List.map_append (l₁ := ((out ++ gone) ++ ((namesF a).take k).filterMap (chgF a b)))]; rfl) | (rw [et]; first | done | rfl))) (Slots.cons rfl (by first | exact .refl _ | exact .nilOwn _ _ | exact .nilSl _ | exact .ownSl _ _ _  | exact SV.le.ownEq (by first | rfl | (rw [et, ← List.append_assoc (out ++ gone), List.map_append (l₁ := ((out ++ gone) ++ ((namesF a).take k).filterMap (chgF a b)))]; rfl) | (rw [et]; first | done | rfl)) | exact SV.le.of_eq (by first | rfl | (rw [et, ← List.append_assoc (out ++ gone), List.map_append (l₁ := ((out ++ gone) ++ ((namesF a).take k).filterMap (chgF a b)))]; rfl) | (rw [et]; first | done | rfl))) (Slots.cons rfl (by first | exact .refl _ | exact .nilOwn _ _ | exact .nilSl _ | exact .ownSl _ _ _  | exact SV.le.ownEq (by first | rfl | (rw [et, ← List.append_assoc (out ++ gone), List.map_append (l₁ := ((out ++ gone) ++ ((namesF a).take k).filterMap (chgF a b)))]; rfl) | (rw [et]; first | done | rfl)) | exact SV.le.of_eq (by first | rfl | (rw [et, ← List.append_assoc (out ++ gone), List.map_append (l₁ := ((out ++ gone) ++ ((namesF a).take k).filterMap (chgF a b)))]; rfl) | (rw [et]; first | done | rfl))) (Slots.cons rfl (by first | exact .refl _ | exact .nilOwn _ _ | exact .nilSl _ | exact .ownSl _ _ _  | exact SV.le.ownEq (by first | rfl | (rw [et, ← List.append_assoc (out ++ gone), List.map_append (l₁ := ((out ++ gone) ++ ((namesF a).take k).filterMap (chgF a b)))]; rfl) | (rw [et]; first | done | rfl)) | exact SV.le.of_eq (by first | rfl | (rw [et, ← List.append_assoc (out ++ gone), List.map_append (l₁ := ((out ++ gone) ++ ((namesF a).take k).filterMap (chgF a b)))]; rfl) | (rw [et]; first | done | rfl))) (Slots.cons rfl (by first | exact .refl _ | exact .nilOwn _ _ | exact .nilSl _ | exact .ownSl _ _ _  | exact SV.le.ownEq (by first | rfl | (rw [et, ← List.append_assoc (out ++ gone), List.map_append (l₁ := ((out ++ gone) ++ ((namesF a).take k).filterMap (chgF a b)))]; rfl) | (rw [et]; first | done | rfl)) | exact SV.le.of_eq (by first | rfl | (rw [et, ← List.append_assoc (out ++ gone), List.map_append (l₁ := ((out ++ gone) ++ ((namesF a).take k).filterMap (chgF a b)))]; rfl) | (rw [et]; first | done | rfl))) (Slots.cons rfl (by first | exact .refl _ | exact .nilOwn _ _ | exact .nilSl _ | exact .ownSl _ _ _  | exact SV.le.ownEq (by first | rfl | (rw [et, ← List.append_assoc (out ++ gone), List.map_append (l₁ := ((out ++ gone) ++ ((namesF a).take k).filterMap (chgF a b)))]; rfl) | (rw [et]; first | done | rfl)) | exact SV.le.of_eq (by first | rfl | (rw [et, ← List.append_assoc (out ++ gone), List.map_append (l₁ := ((out ++ gone) ++ ((namesF a).take k).filterMap (chgF a b)))]; rfl) | (rw [et]; first | done | rfl))) Slots.nil)))))), (by first | exact List.Sublist.refl _ | exact .cons_cons _ (.cons _ (.refl _)) | exact List.nil_sublist _ | exact .cons _ (.refl _) | exact .cons _ (.cons _ (.refl _)) | exact .cons _ (.cons _ (.cons _ (.refl _))) | exact .cons _ (.cons _ (.cons _ (.cons _ (.refl _)))) | exact .cons_cons _ (List.nil_sublist _))⟩, (by omega), ⟨k + 1, rfl, rfl, (by omega)⟩⟩
        ·
          have hne : decide ((lookF a x).getD [] = y.data) = true := by simpa using hc5
          have ht : chgF a b x = none := by rw [chgF, hlk]; simp only [hne, cond_true]
          refine awp_skip ?_
          refine x_block ?_
          refine x_then ?_
          refine awp_region ?_
          refine r_move rfl rfl ?_
          refine r_ari _ rfl rfl rfl (wrap_id (by first | omega | (simp; omega))) rfl ?_
          refine r_assign rfl rfl ?_
          refine awl_nil ?_
          refine x_then ?_
          have et := fmS_step (f := chgF a b) hx
          rw [ht] at et
          simp only [Option.toList_some, Option.toList_none, List.append_nil] at et
          refine ⟨(namesF a).length - (k + 1), ⟨175, [(1, .a (files b)), (6, .a (files (onlyS b a))), (7, .a (.v (.slice (some ⟨b26, 0, none⟩) (wentF b a).length (wentF b a).length))), (13, .own 27 4 (((out ++ gone) ++ ((namesF a).take (k + 1)).filterMap (chgF a b)).map FC.cs)), (14, .a (files (cleanS a))), (15, .a (.v (.int .i64 (((k + 1) : Int)))))], [⟨b26, true, .box (tk.map fun x => AV.v (.bool x))⟩]⟩, ⟨rfl, (Slots.cons rfl (by first | exact .refl _ | exact .nilOwn _ _ | exact .nilSl _ | exact .ownSl _ _ _  | exact SV.le.ownEq (by first | rfl | (rw [et, ← List.append_assoc (out ++ gone), List.map_append (l₁ := ((out ++ gone) ++ ((namesF a).take k).filterMap (chgF a b)))]; rfl) | (rw [et]; first | done | rfl)) | exact SV.le.of_eq (by first | rfl | (rw [et, ← List.append_assoc (out ++ gone), List.map_append (l₁ := ((out ++ gone) ++ ((namesF a).take k).filterMap (chgF a b)))]; rfl) | (rw [et]; first | done | rfl))) (Slots.cons rfl (by first | exact .refl _ | exact .nilOwn _ _ | exact .nilSl _ | exact .ownSl _ _ _  | exact SV.le.ownEq (by first | rfl | (rw [et, ← List.append_assoc (out ++ gone), List.map_append (l₁ := ((out ++ gone) ++ ((namesF a).take k).filterMap (chgF a b)))]; rfl) | (rw [et]; first | done | rfl)) | exact SV.le.of_eq (by first | rfl | (rw [et, ← List.append_assoc (out ++ gone), List.map_append (l₁ := ((out ++ gone) ++ ((namesF a).take k).filterMap (chgF a b)))]; rfl) | (rw [et]; first | done | rfl))) (Slots.cons rfl (by first | exact .refl _ | exact .nilOwn _ _ | exact .nilSl _ | exact .ownSl _ _ _  | exact SV.le.ownEq (by first | rfl | (rw [et, ← List.append_assoc (out ++ gone), List.map_append (l₁ := ((out ++ gone) ++ ((namesF a).take k).filterMap (chgF a b)))]; rfl) | (rw [et]; first | done | rfl)) | exact SV.le.of_eq (by first | rfl | (rw [et, ← List.append_assoc (out ++ gone), List.map_append (l₁ := ((out ++ gone) ++ ((namesF a).take k).filterMap (chgF a b)))]; rfl) | (rw [et]; first | done | rfl))) (Slots.cons rfl (by first | exact .refl _ | exact .nilOwn _ _ | exact .nilSl _ | exact .ownSl _ _ _  | exact SV.le.ownEq (by first | rfl | (rw [et, ← List.append_assoc (out ++ gone), List.map_append (l₁ := ((out ++ gone) ++ ((namesF a).take k).filterMap (chgF a b)))]; rfl) | (rw [et]; first | done | rfl)) | exact SV.le.of_eq (by first | rfl | (rw [et, ← List.append_assoc (out ++ gone), List.map_append (l₁ := ((out ++ gone) ++ ((namesF a).take k).filterMap (chgF a b)))]; rfl) | (rw [et]; first | done | rfl))) (Slots.cons rfl (by first | exact .refl _ | exact .nilOwn _ _ | exact .nilSl _ | exact .ownSl _ _ _  | exact SV.le.ownEq (by first | rfl | (rw [et, ← List.append_assoc (out ++ gone), List.map_append (l₁ := ((out ++ gone) ++ ((namesF a).take k).filterMap (chgF a b)))]; rfl) | (rw [et]; first | done | rfl)) | exact SV.le.of_eq (by first | rfl | (rw [et, ← List.append_assoc (out ++ gone), List.map_append (l₁ := ((out ++ gone) ++ ((namesF a).take k).filterMap (chgF a b)))]; rfl) | (rw [et]; first | done | rfl))) (Slots.cons rfl (by first | exact .refl _ | exact .nilOwn _ _ | exact .nilSl _ | exact .ownSl _ _ _  | exact SV.le.ownEq (by first | rfl | (rw [et, ← List.append_assoc (out ++ gone), List.map_append (l₁ := ((out ++ gone) ++ ((namesF a).take k).filterMap (chgF a b)))]; rfl) | (rw [et]; first | done | rfl)) | exact SV.le.of_eq (by first | rfl | (rw [et, ← List.append_assoc (out ++ gone), List.map_append (l₁ := ((out ++ gone) ++ ((namesF a).take k).filterMap (chgF a b)))]; rfl) | (rw [et]; first | done | rfl))) Slots.nil)))))), (by first | exact List.Sublist.refl _ | exact .cons_cons _ (.cons _ (.refl _)) | exact List.nil_sublist _ | exact .cons _ (.refl _) | exact .cons _ (.cons _ (.refl _)) | exact .cons _ (.cons _ (.cons _ (.refl _))) | exact .cons _ (.cons _ (.cons _ (.cons _ (.refl _)))) | exact .cons_cons _ (List.nil_sublist _))⟩, (by omega), ⟨k + 1, rfl, rfl, (by omega)⟩⟩
    ·
      have hgek : (namesF a).length ≤ k := by have := of_decide_eq_false hc4; simp [clean_map] at this; omega
      have hkl : (namesF a).take k = namesF a := List.take_of_length_le hgek
      rw [hkl]
      have hf2 : ((namesF a).filterMap (chgF a b)).length ≤ (namesF a).length := List.length_filterMap_le _ _
      refine awp_exit ?_
      refine x_thenE ?_
      refine x_thenE ?_
      refine x_blockE ?_
      refine x_then ?_
      refine awp_seq ?_
      refine awp_seq ?_
      refine awp_region ?_
      refine r_assign rfl rfl ?_
      refine awl_nil ?_
      refine x_then ?_
      refine awp_block ?_
      refine awp_loop (fun nn0 S => ∃ k : Nat, S = ⟨175, [(6, .a (files (onlyS b a))), (7, .a (.v (.slice (some ⟨b26, 0, none⟩) (wentF b a).length (wentF b a).length))), (13, .own 27 4 (((out ++ gone) ++ (namesF a).filterMap (chgF a b) ++ (keepB ((wentF b a).take k) (tk.take k)).map (addF b)).map FC.cs)), (17, .a (.v (.int .i64 ((k : Int)))))], [⟨b26, true, .box (tk.map fun x => AV.v (.bool x))⟩]⟩ ∧ nn0 = (wentF b a).length - k ∧ (k ≤ (wentF b a).length) ∧ ((keepB ((wentF b a).take k) (tk.take k)).length ≤ k)) ((wentF b a).length - (0)) ⟨175, [(6, .a (files (onlyS b a))), (7, .a (.v (.slice (some ⟨b26, 0, none⟩) (wentF b a).length (wentF b a).length))), (13, .own 27 4 (((out ++ gone) ++ (namesF a).filterMap (chgF a b) ++ (keepB ((wentF b a).take (0)) (tk.take (0))).map (addF b)).map FC.cs)), (17, .a (.v (.int .i64 (((0) : Int)))))], [⟨b26, true, .box (tk.map fun x => AV.v (.bool x))⟩]⟩ ⟨rfl, (Slots.cons rfl (by first | exact .refl _ | exact .nilOwn _ _ | exact .nilSl _ | exact .ownSl _ _ _  | exact SV.le.ownEq (by simp [keepB]) | exact SV.le.of_eq (by simp [keepB])) (Slots.cons rfl (by first | exact .refl _ | exact .nilOwn _ _ | exact .nilSl _ | exact .ownSl _ _ _  | exact SV.le.ownEq (by simp [keepB]) | exact SV.le.of_eq (by simp [keepB])) (Slots.cons rfl (by first | exact .refl _ | exact .nilOwn _ _ | exact .nilSl _ | exact .ownSl _ _ _  | exact SV.le.ownEq (by simp [keepB]) | exact SV.le.of_eq (by simp [keepB])) (Slots.cons rfl (by first | exact .refl _ | exact .nilOwn _ _ | exact .nilSl _ | exact .ownSl _ _ _  | exact SV.le.ownEq (by simp [keepB]) | exact SV.le.of_eq (by simp [keepB])) Slots.nil)))), (by first | exact List.Sublist.refl _ | exact .cons_cons _ (.cons _ (.refl _)) | exact List.nil_sublist _ | exact .cons _ (.refl _) | exact .cons _ (.cons _ (.refl _)) | exact .cons _ (.cons _ (.cons _ (.refl _))) | exact .cons _ (.cons _ (.cons _ (.cons _ (.refl _)))) | exact .cons_cons _ (List.nil_sublist _))⟩ ⟨0, rfl, rfl, Nat.zero_le _, (by simp [keepB])⟩ ?_
      rintro nn0 _ ⟨k, rfl, rfl, hk, hkp⟩
      refine awp_seq ?_
      refine awp_seq ?_
      refine awp_region ?_
      refine r_move rfl rfl ?_
      refine r_move rfl rfl ?_
      first | (refine r_lenS rfl rfl TF.sl22 rfl ?_) | (refine r_lenNil rfl TF.sl22 rfl ?_) | (refine r_lenV rfl TF.sl22 rfl ?_)
      refine r_cmp rfl rfl rfl rfl ?_
      refine awl_nil ?_
      refine x_then ?_
      refine awp_cond rfl (fun hc6 => ?_) (fun hc6 => ?_)
      ·
        have hltk : k < (wentF b a).length := by have := of_decide_eq_true hc6; simp [onlyS] at this; omega
        obtain ⟨x, hx⟩ := get_lt hltk
        obtain ⟨tb, htb⟩ := get_lt (show k < tk.length by omega)
        have holl := only_len b a
        have hks := keep_step hx htb
        refine awp_skip ?_
        refine x_then ?_
        refine awp_seq ?_
        refine awp_block ?_
        refine awp_seq ?_
        refine awp_region ?_
        refine r_move rfl rfl ?_
        refine r_move rfl rfl ?_
        refine r_indexV rfl rfl TF.sl67 TF.sz4 (by omega) (by omega) rfl ?_
        refine r_load1b 0 rfl rfl (tk_get htb) TF.agg4 rfl ?_
        refine r_not rfl rfl ?_
        refine awl_nil ?_
        refine x_then ?_
        refine awp_cond rfl (fun hc7 => ?_) (fun hc7 => ?_)
        ·
          have htf : tb = false := by simpa using hc7
          rw [htf, cond_false] at hks
          have e3 : (((out ++ gone) ++ (namesF a).filterMap (chgF a b) ++ (keepB ((wentF b a).take (k + 1)) (tk.take (k + 1))).map (addF b))).map FC.cs = (((out ++ gone) ++ (namesF a).filterMap (chgF a b) ++ (keepB ((wentF b a).take k) (tk.take k)).map (addF b))).map FC.cs ++ [FC.cs (addF b x)] := by rw [hks, List.map_append (f := addF b), ← List.append_assoc, List.map_append (f := FC.cs)]; rfl
          refine awp_drawS [160, 161, 162, 163, 164, 165, 166, 167, 168, 169, 170, 171, 172] [_, _, _, _, _, _, _, _, _, _, _, _, _] [] [(12, 172)] TF.mixed rfl rfl rfl ⟨⟨⟨⟨⟨⟨⟨⟨⟨⟨⟨⟨⟨trivial
            , ⟨_, rfl, fun sl hd hr ho => by
                refine r_move (hr 13 _ rfl rfl rfl) rfl ?_
                exact awl_nil ⟨rfl, post_put⟩⟩⟩
            , ⟨_, rfl, fun sl hd hr ho => by
                refine r_move (hr 6 _ rfl rfl rfl) rfl ?_
                exact awl_nil ⟨rfl, post_put⟩⟩⟩
            , ⟨_, rfl, fun sl hd hr ho => by
                refine r_move (hr 17 _ rfl rfl rfl) rfl ?_
                exact awl_nil ⟨rfl, post_put⟩⟩⟩
            , ⟨_, rfl, fun sl hd hr ho => by
                refine r_index (hd 1 _ rfl rfl rfl) rfl (hd 2 _ rfl rfl rfl) TF.sl22 TF.sz54 (by omega) (get_map (only_get hx)) rfl ?_
                exact awl_nil ⟨rfl, post_put⟩⟩⟩
            , ⟨_, rfl, fun sl hd hr ho => by
                first | (refine r_fieldcp (hd 3 _ rfl rfl rfl) TF.f54_0 TF.sz9 rfl ?_) | (refine r_fieldb (hd 3 _ rfl rfl rfl) TF.f54_0 TF.sz9 rfl ?_)
                exact awl_nil ⟨rfl, post_put⟩⟩⟩
            , ⟨_, rfl, fun sl hd hr ho => by
                first | (refine r_load1 (hd 4 _ rfl rfl rfl) TF.agg9 rfl ?_) | (refine r_load1b 0 (hd 4 _ rfl rfl rfl) rfl rfl TF.agg9 rfl ?_)
                exact awl_nil ⟨rfl, post_put⟩⟩⟩
            , ⟨_, rfl, fun sl hd hr ho => by
                refine r_move (hr 6 _ rfl rfl rfl) rfl ?_
                exact awl_nil ⟨rfl, post_put⟩⟩⟩
            , ⟨_, rfl, fun sl hd hr ho => by
                refine r_move (hr 17 _ rfl rfl rfl) rfl ?_
                exact awl_nil ⟨rfl, post_put⟩⟩⟩
            , ⟨_, rfl, fun sl hd hr ho => by
                refine r_index (hd 6 _ rfl rfl rfl) rfl (hd 7 _ rfl rfl rfl) TF.sl22 TF.sz54 (by omega) (get_map (only_get hx)) rfl ?_
                exact awl_nil ⟨rfl, post_put⟩⟩⟩
            , ⟨_, rfl, fun sl hd hr ho => by
                first | (refine r_fieldcp (hd 8 _ rfl rfl rfl) TF.f54_1 TF.sz34 rfl ?_) | (refine r_fieldb (hd 8 _ rfl rfl rfl) TF.f54_1 TF.sz34 rfl ?_)
                exact awl_nil ⟨rfl, post_put⟩⟩⟩
            , ⟨_, rfl, fun sl hd hr ho => by
                first | (refine r_load1 (hd 9 _ rfl rfl rfl) TF.agg34 rfl ?_) | (refine r_load1b 0 (hd 9 _ rfl rfl rfl) rfl rfl TF.agg34 rfl ?_)
                exact awl_nil ⟨rfl, post_put⟩⟩⟩
            , ⟨_, rfl, fun sl hd hr ho => by
                refine r_build (parts := [(0, .const ((Go.Value.int Go.IntKind.i64 1))), (1, .tmp 165), (3, .tmp 170)]) rfl TF.pl36 TF.zero36 (parts_cons rfl (parts_cons (hd 5 _ rfl rfl rfl) (parts_cons (hd 10 _ rfl rfl rfl) parts_nil))) rfl rfl ?_
                exact awl_nil ⟨rfl, post_put⟩⟩⟩
            , ⟨_, rfl, fun sl hd hr ho => by
                refine r_lit 172 (parts := [(0, .tmp 171)]) rfl TF.sl30 TF.sz36 TF.zraw36 rfl rfl (parts_cons (hd 11 _ rfl rfl rfl) parts_nil) rfl rfl rfl rfl ?_
                exact awl_nil ⟨rfl, (post_dem (ho 172 (List.mem_of_elem_eq_true rfl)))⟩⟩⟩
            (by rfl) ?_
          refine r_append 27 rfl (by first | exact .own _ | exact .nil) rfl (by first | exact .sl _ | exact .own _ _ | exact .nil) TF.sl30 TF.sz36 (by decide) TF.by36 TF.zlen36 (by simp [chunks] <;> omega) (by simp [chunks] <;> omega) rfl ?_
          refine r_assign rfl rfl ?_
          refine awl_nil ?_
          refine x_block ?_
          refine x_then ?_
          refine awp_region ?_
          refine r_move rfl rfl ?_
          refine r_ari _ rfl rfl rfl (wrap_id (by first | omega | (simp; omega))) rfl ?_
          refine r_assign rfl rfl ?_
          refine awl_nil ?_
          refine x_then ?_
          refine ⟨(wentF b a).length - (k + 1), ⟨175, [(6, .a (files (onlyS b a))), (7, .a (.v (.slice (some ⟨b26, 0, none⟩) (wentF b a).length (wentF b a).length))), (13, .own 27 4 (((out ++ gone) ++ (namesF a).filterMap (chgF a b) ++ (keepB ((wentF b a).take (k + 1)) (tk.take (k + 1))).map (addF b)).map FC.cs)), (17, .a (.v (.int .i64 (((k + 1) : Int)))))], [⟨b26, true, .box (tk.map fun x => AV.v (.bool x))⟩]⟩, ⟨rfl, (Slots.cons rfl (by first | exact .refl _ | exact .nilOwn _ _ | exact .nilSl _ | exact .ownSl _ _ _  | exact SV.le.ownEq (by first | rfl | (rw [e3]; rfl) | (rw [hks])) | exact SV.le.of_eq (by first | rfl | (rw [e3]; rfl) | (rw [hks]))) (Slots.cons rfl (by first | exact .refl _ | exact .nilOwn _ _ | exact .nilSl _ | exact .ownSl _ _ _  | exact SV.le.ownEq (by first | rfl | (rw [e3]; rfl) | (rw [hks])) | exact SV.le.of_eq (by first | rfl | (rw [e3]; rfl) | (rw [hks]))) (Slots.cons rfl (by first | exact .refl _ | exact .nilOwn _ _ | exact .nilSl _ | exact .ownSl _ _ _  | exact SV.le.ownEq (by first | rfl | (rw [e3]; rfl) | (rw [hks])) | exact SV.le.of_eq (by first | rfl | (rw [e3]; rfl) | (rw [hks]))) (Slots.cons rfl (by first | exact .refl _ | exact .nilOwn _ _ | exact .nilSl _ | exact .ownSl _ _ _  | exact SV.le.ownEq (by first | rfl | (rw [e3]; rfl) | (rw [hks])) | exact SV.le.of_eq (by first | rfl | (rw [e3]; rfl) | (rw [hks]))) Slots.nil)))), (by first | exact List.Sublist.refl _ | exact .cons_cons _ (.cons _ (.refl _)) | exact List.nil_sublist _ | exact .cons _ (.refl _) | exact .cons _ (.cons _ (.refl _)) | exact .cons _ (.cons _ (.cons _ (.refl _))) | exact .cons _ (.cons _ (.cons _ (.cons _ (.refl _)))) | exact .cons_cons _ (List.nil_sublist _))⟩, (by omega), ⟨k + 1, rfl, rfl, (by omega), (by rw [hks]; first | (simp; omega) | omega)⟩⟩
        ·
          have htf : tb = true := by simpa using hc7
          rw [htf, cond_true, List.append_nil] at hks
          refine awp_skip ?_
          refine x_block ?_
          refine x_then ?_
          refine awp_region ?_
          refine r_move rfl rfl ?_
          refine r_ari _ rfl rfl rfl (wrap_id (by first | omega | (simp; omega))) rfl ?_
          refine r_assign rfl rfl ?_
          refine awl_nil ?_
          refine x_then ?_
          refine ⟨(wentF b a).length - (k + 1), ⟨175, [(6, .a (files (onlyS b a))), (7, .a (.v (.slice (some ⟨b26, 0, none⟩) (wentF b a).length (wentF b a).length))), (13, .own 27 4 (((out ++ gone) ++ (namesF a).filterMap (chgF a b) ++ (keepB ((wentF b a).take (k + 1)) (tk.take (k + 1))).map (addF b)).map FC.cs)), (17, .a (.v (.int .i64 (((k + 1) : Int)))))], [⟨b26, true, .box (tk.map fun x => AV.v (.bool x))⟩]⟩, ⟨rfl, (Slots.cons rfl (by first | exact .refl _ | exact .nilOwn _ _ | exact .nilSl _ | exact .ownSl _ _ _  | exact SV.le.ownEq (by first | rfl | (rw [e3]; rfl) | (rw [hks])) | exact SV.le.of_eq (by first | rfl | (rw [e3]; rfl) | (rw [hks]))) (Slots.cons rfl (by first | exact .refl _ | exact .nilOwn _ _ | exact .nilSl _ | exact .ownSl _ _ _  | exact SV.le.ownEq (by first | rfl | (rw [e3]; rfl) | (rw [hks])) | exact SV.le.of_eq (by first | rfl | (rw [e3]; rfl) | (rw [hks]))) (Slots.cons rfl (by first | exact .refl _ | exact .nilOwn _ _ | exact .nilSl _ | exact .ownSl _ _ _  | exact SV.le.ownEq (by first | rfl | (rw [e3]; rfl) | (rw [hks])) | exact SV.le.of_eq (by first | rfl | (rw [e3]; rfl) | (rw [hks]))) (Slots.cons rfl (by first | exact .refl _ | exact .nilOwn _ _ | exact .nilSl _ | exact .ownSl _ _ _  | exact SV.le.ownEq (by first | rfl | (rw [e3]; rfl) | (rw [hks])) | exact SV.le.of_eq (by first | rfl | (rw [e3]; rfl) | (rw [hks]))) Slots.nil)))), (by first | exact List.Sublist.refl _ | exact .cons_cons _ (.cons _ (.refl _)) | exact List.nil_sublist _ | exact .cons _ (.refl _) | exact .cons _ (.cons _ (.refl _)) | exact .cons _ (.cons _ (.cons _ (.refl _))) | exact .cons _ (.cons _ (.cons _ (.cons _ (.refl _)))) | exact .cons_cons _ (List.nil_sublist _))⟩, (by omega), ⟨k + 1, rfl, rfl, (by omega), (by rw [hks]; first | (simp; omega) | omega)⟩⟩
      ·
        have hgek : (wentF b a).length ≤ k := by have := of_decide_eq_false hc6; simp [onlyS] at this; omega
        have hk1 : (wentF b a).take k = wentF b a := List.take_of_length_le hgek
        have hk2 : tk.take k = tk := List.take_of_length_le (by omega)
        refine awp_exit ?_
        refine x_thenE ?_
        refine x_thenE ?_
        refine x_blockE ?_
        refine x_then ?_
        refine awp_seq ?_
        refine awp_region ?_
        refine r_move rfl rfl ?_
        refine r_assign rfl rfl ?_
        refine awl_nil ?_
        refine x_then ?_
        refine awp_ret ?_
        exact ⟨(.inl rfl), _, [], (.one (by first | exact .mk rfl rfl | exact .nil rfl)), ⟨rfl, by rw [hk1, hk2, OfF, show splitE a b = (keepB (wentF b a) tk, out, gone) from hst]; rfl⟩, (List.nil_sublist _), (by simp)⟩

end Go.Proofs.Ytnbnegkdbjdekaa.A

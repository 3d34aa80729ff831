/- Layer 62: walks of the statements' small functions, of the document's Clean. -/
import Derived.Test.YtnbnegkdbjdekaaProg
import Derived.KernelRfl
import Derived.Test.YtnbnegkdbjdekaaX62E
import Derived.Test.YtnbnegkdbjdekaaX62C2
namespace Go.Proofs.Ytnbnegkdbjdekaa.A
open Go Go.RowKit
set_option linter.unusedVariables false
set_option linter.unusedSimpArgs false
set_option maxRecDepth 100000

theorem TF.sl22 : sliceT Try.prog 22 = some 54 := by kernel_rfl
theorem TF.sz54 : szT Try.prog 54 = some 2 := by kernel_rfl
theorem TF.agg54 : aggT Try.prog 54 = some true := by kernel_rfl
theorem TF.zero54 : ZeroT Try.prog 54 [.v (.string ⟨#[]⟩), .sl 1 []] := ⟨[(.string ⟨#[]⟩), (.slice none 0 0)], by kernel_rfl, (.cons (.refl _) (.cons (.nil 1) .nil))⟩
theorem TF.f54_0 : fieldT Try.prog 54 0 = some (0, 9) := by kernel_rfl
theorem TF.f54_1 : fieldT Try.prog 54 1 = some (1, 34) := by kernel_rfl
theorem TF.en40 : entersT Try.prog 40 := enters_of Try.func40 (by kernel_rfl) (by kernel_rfl)
theorem TF.en39 : entersT Try.prog 39 := enters_of Try.func39 (by kernel_rfl) (by kernel_rfl)
theorem TF.zraw54 : zeroT Try.prog 54 = some [(.string ⟨#[]⟩), (.slice none 0 0)] := by kernel_rfl
theorem TF.en38 : entersT Try.prog 38 := enters_of Try.func38 (by kernel_rfl) (by kernel_rfl)
theorem TF.en33 : entersT Try.prog 33 := enters_of Try.func33 (by kernel_rfl) (by kernel_rfl)
theorem TF.by54 : bytesT Try.prog 54 = some 40 := by kernel_rfl
theorem TF.zlen54 : (zeroT Try.prog 54).map (·.length) = some 2 := by kernel_rfl
theorem TF.en13 : entersT Try.prog 13 := enters_of Try.func13 (by kernel_rfl) (by kernel_rfl)
theorem TF.en16 : entersT Try.prog 16 := enters_of Try.func16 (by kernel_rfl) (by kernel_rfl)
theorem TF.en19 : entersT Try.prog 19 := enters_of Try.func19 (by kernel_rfl) (by kernel_rfl)

theorem files_ok (l : List File) (hl : l.length ≤ 1000000) (hda : ∀ f ∈ l, f.data.length ≤ 1000000) : AC Try.prog 11 [files l] [] (fun r n => n = [] ∧ r = files l) := by
  refine ac_of_awp (rs := [2]) (nt := 24) Try.func11 rfl rfl rfl rfl (fun w0 C0 hq => ?_)
  refine awp_seq ?_
  refine awp_region ?_
  refine r_assign rfl rfl ?_
  refine awl_nil ?_
  refine x_then ?_
  refine awp_seq ?_
  refine awp_region ?_
  refine r_assign rfl rfl ?_
  refine awl_nil ?_
  refine x_then ?_
  refine awp_seq ?_
  refine awp_seq ?_
  refine awp_region ?_
  refine r_move rfl rfl ?_
  first | (refine r_lenS rfl rfl TF.sl22 rfl ?_) | (refine r_lenNil rfl TF.sl22 rfl ?_) | (refine r_lenV rfl TF.sl22 rfl ?_)
  refine r_move rfl rfl ?_
  refine awl_nil ?_
  refine x_then ?_
  refine awp_block ?_
  refine awp_loop (fun nn0 S => ∃ k : Nat, S = ⟨24, [(3, .own 3 2 ((l.take k).map File.cs)), (6, .a (files l)), (7, .a (.v (.int .i64 ((l.map File.cs).length)))), (8, .a (.v (.int .i64 ((k : Int)))))], []⟩ ∧ nn0 = l.length - k ∧ (k ≤ l.length)) (l.length - (0)) ⟨24, [(3, .own 3 2 ((l.take (0)).map File.cs)), (6, .a (files l)), (7, .a (.v (.int .i64 ((l.map File.cs).length)))), (8, .a (.v (.int .i64 (((0) : Int)))))], []⟩ ⟨rfl, (Slots.cons rfl (by first | exact .refl _ | exact .nilOwn _ _ | exact .nilSl _ | exact .ownSl _ _ _  | exact SV.le.of_eq (by simp)) (Slots.cons rfl (by first | exact .refl _ | exact .nilOwn _ _ | exact .nilSl _ | exact .ownSl _ _ _  | exact SV.le.of_eq (by simp)) (Slots.cons rfl (by first | exact .refl _ | exact .nilOwn _ _ | exact .nilSl _ | exact .ownSl _ _ _  | exact SV.le.of_eq (by simp)) (Slots.cons rfl (by first | exact .refl _ | exact .nilOwn _ _ | exact .nilSl _ | exact .ownSl _ _ _  | exact SV.le.of_eq (by simp)) Slots.nil)))), (by first | exact List.Sublist.refl _ | exact .cons_cons _ (.cons _ (.refl _)) | exact List.nil_sublist _ | exact .cons _ (.refl _) | exact .cons _ (.cons _ (.refl _)) | exact .cons _ (.cons _ (.cons _ (.refl _))) | exact .cons _ (.cons _ (.cons _ (.cons _ (.refl _)))) | exact .cons_cons _ (List.nil_sublist _))⟩ ⟨0, rfl, rfl, Nat.zero_le _⟩ ?_
  rintro nn0 _ ⟨k, rfl, rfl, hk⟩
  refine awp_seq ?_
  refine awp_region ?_
  refine r_cmp rfl rfl rfl rfl ?_
  refine awl_nil ?_
  refine x_then ?_
  refine awp_seq ?_
  refine awp_cond rfl (fun hc0 => ?_) (fun hc0 => ?_)
  ·
    have hltx : k < l.length := by have := of_decide_eq_true hc0; simpa using this
    obtain ⟨x, hx⟩ := get_lt hltx
    have hxd := hda x (List.mem_of_getElem? hx)
    refine awp_skip ?_
    refine x_then ?_
    refine awp_seq ?_
    refine awp_block ?_
    refine awp_seq ?_
    refine awp_region ?_
    refine r_index rfl rfl rfl TF.sl22 TF.sz54 (by omega) (get_map hx) rfl ?_
    refine r_loadA rfl TF.agg54 TF.sz54 rfl rfl ?_
    refine r_alloc TF.zero54 rfl (fun b5 => ?_)
    refine r_store 0 rfl rfl rfl TF.sz54 rfl rfl rfl ?_
    refine awl_nil ?_
    refine x_then ?_
    refine awp_drawS [12, 13, 14, 15, 16, 17, 18, 19, 20] [_, _, _, _, _, _, _, _, _] [[], [], [], [], [], [], [15]] [(3, 15), (6, 15), (8, 20)] TF.mixed rfl rfl rfl ⟨⟨⟨⟨⟨⟨⟨⟨⟨trivial
      , ⟨_, rfl, fun sl hd hr ho => by
          refine r_move (hr 3 _ rfl rfl rfl) rfl ?_
          exact awl_nil ⟨rfl, post_put⟩⟩⟩
      , ⟨_, rfl, fun sl hd hr ho => by
          first | (refine r_fieldb (hr 5 _ rfl rfl rfl) TF.f54_0 TF.sz9 rfl ?_) | (refine r_fieldcp (hr 5 _ rfl rfl rfl) TF.f54_0 TF.sz9 rfl ?_)
          exact awl_nil ⟨rfl, post_put⟩⟩⟩
      , ⟨_, rfl, fun sl hd hr ho => by
          first | (refine r_load1b 0 (hd 1 _ rfl rfl rfl) rfl rfl TF.agg9 rfl ?_) | (refine r_load1 (hd 1 _ rfl rfl rfl) TF.agg9 rfl ?_)
          exact awl_nil ⟨rfl, post_put⟩⟩⟩
      , ⟨_, rfl, fun sl hd hr ho => by
          refine r_lit 15 (parts := []) rfl TF.sl34 TF.sz5 TF.zraw5 rfl rfl parts_nil rfl rfl rfl rfl ?_
          exact awl_nil ⟨rfl, (post_dem (ho 15 (List.mem_of_elem_eq_true rfl)))⟩⟩⟩
      , ⟨_, rfl, fun sl hd hr ho => by
          first | (refine r_fieldb (hr 5 _ rfl rfl rfl) TF.f54_1 TF.sz34 rfl ?_) | (refine r_fieldcp (hr 5 _ rfl rfl rfl) TF.f54_1 TF.sz34 rfl ?_)
          exact awl_nil ⟨rfl, post_put⟩⟩⟩
      , ⟨_, rfl, fun sl hd hr ho => by
          first | (refine r_load1b 0 (hd 4 _ rfl rfl rfl) rfl rfl TF.agg34 rfl ?_) | (refine r_load1 (hd 4 _ rfl rfl rfl) TF.agg34 rfl ?_)
          exact awl_nil ⟨rfl, post_put⟩⟩⟩
      , ⟨_, rfl, fun sl hd hr ho => by
          refine r_append 15 (hd 3 _ rfl rfl rfl) (by first | exact .own _ | exact .nil) (hd 5 _ rfl rfl rfl) (by first | exact .sl _ | exact .own _ _ | exact .nil) TF.sl34 TF.sz5 (by decide) TF.by5 TF.zlen5 (by simp [chunks, u8s]; omega) (by simp [chunks, u8s]; omega) rfl ?_
          exact awl_nil ⟨rfl, (post_dem (ho 15 (List.mem_of_elem_eq_true rfl)))⟩⟩⟩
      , ⟨_, rfl, fun sl hd hr ho => by
          refine r_build (parts := [(0, .tmp 14), (1, .tmp 18)]) rfl TF.pl48 TF.zero48 (parts_cons (hd 2 _ rfl rfl rfl) (parts_cons (hd 6 _ rfl rfl rfl) parts_nil)) rfl rfl ?_
          exact awl_nil ⟨rfl, post_put⟩⟩⟩
      , ⟨_, rfl, fun sl hd hr ho => by
          refine r_lit 20 (parts := [(0, .tmp 19)]) rfl TF.sl25 TF.sz48 TF.zraw48 rfl rfl (parts_cons (hd 7 _ rfl rfl rfl) parts_nil) rfl rfl rfl rfl ?_
          exact awl_nil ⟨rfl, (post_dem (ho 20 (List.mem_of_elem_eq_true rfl)))⟩⟩⟩
      (by rfl) ?_
    refine r_append 3 rfl (by first | exact .own _ | exact .nil) rfl (by first | exact .sl _ | exact .own _ _ | exact .nil) TF.sl25 TF.sz48 (by decide) TF.by48 TF.zlen48 (by simp [chunks] <;> omega) (by simp [chunks] <;> omega) rfl ?_
    refine r_assign rfl rfl ?_
    refine awl_nil ?_
    refine x_block ?_
    refine x_then ?_
    refine awp_region ?_
    refine r_ari _ rfl rfl rfl (wrap_id (by first | omega | (simp; omega))) rfl ?_
    refine r_move rfl rfl ?_
    refine awl_nil ?_
    refine x_then ?_
    refine ⟨l.length - (k + 1), ⟨24, [(3, .own 3 2 ((l.take (k + 1)).map File.cs)), (6, .a (files l)), (7, .a (.v (.int .i64 ((l.map File.cs).length)))), (8, .a (.v (.int .i64 (((k + 1) : Int)))))], []⟩, ⟨rfl, (Slots.cons rfl (by first | exact .refl _ | exact .nilOwn _ _ | exact .nilSl _ | exact .ownSl _ _ _  | exact SV.le.ownEq (by first | rfl | (rw [takeS hx, List.map_append]; rfl) | (rw [takeS hx, List.map_append]; simp [chunks, File.cs, bts, SV.av])) | exact SV.le.of_eq (by first | rfl | (rw [takeS hx, List.map_append]; rfl) | (rw [takeS hx, List.map_append]; simp [chunks, File.cs, bts, SV.av]))) (Slots.cons rfl (by first | exact .refl _ | exact .nilOwn _ _ | exact .nilSl _ | exact .ownSl _ _ _  | exact SV.le.ownEq (by first | rfl | (rw [takeS hx, List.map_append]; rfl) | (rw [takeS hx, List.map_append]; simp [chunks, File.cs, bts, SV.av])) | exact SV.le.of_eq (by first | rfl | (rw [takeS hx, List.map_append]; rfl) | (rw [takeS hx, List.map_append]; simp [chunks, File.cs, bts, SV.av]))) (Slots.cons rfl (by first | exact .refl _ | exact .nilOwn _ _ | exact .nilSl _ | exact .ownSl _ _ _  | exact SV.le.ownEq (by first | rfl | (rw [takeS hx, List.map_append]; rfl) | (rw [takeS hx, List.map_append]; simp [chunks, File.cs, bts, SV.av])) | exact SV.le.of_eq (by first | rfl | (rw [takeS hx, List.map_append]; rfl) | (rw [takeS hx, List.map_append]; simp [chunks, File.cs, bts, SV.av]))) (Slots.cons rfl (by first | exact .refl _ | exact .nilOwn _ _ | exact .nilSl _ | exact .ownSl _ _ _  | exact SV.le.ownEq (by first | rfl | (rw [takeS hx, List.map_append]; rfl) | (rw [takeS hx, List.map_append]; simp [chunks, File.cs, bts, SV.av])) | exact SV.le.of_eq (by first | rfl | (rw [takeS hx, List.map_append]; rfl) | (rw [takeS hx, List.map_append]; simp [chunks, File.cs, bts, SV.av]))) Slots.nil)))), (by first | exact List.Sublist.refl _ | exact .cons_cons _ (.cons _ (.refl _)) | exact List.nil_sublist _ | exact .cons _ (.refl _) | exact .cons _ (.cons _ (.refl _)) | exact .cons _ (.cons _ (.cons _ (.refl _))) | exact .cons _ (.cons _ (.cons _ (.cons _ (.refl _)))) | exact .cons_cons _ (List.nil_sublist _))⟩, (by omega), ⟨k + 1, rfl, rfl, (by omega)⟩⟩
  ·
    have hge : l.length ≤ k := by have := of_decide_eq_false hc0; simp at this; omega
    have hkl : l.take k = l := List.take_of_length_le hge
    refine awp_exit ?_
    refine x_thenE ?_
    refine x_thenE ?_
    refine x_blockE ?_
    refine x_then ?_
    refine awp_seq ?_
    refine awp_region ?_
    refine r_move rfl rfl ?_
    refine r_assign rfl rfl ?_
    refine awl_nil ?_
    refine x_then ?_
    refine awp_ret ?_
    exact ⟨(.inl rfl), _, [], (.one (by first | exact .mk rfl rfl | exact .nil rfl)), ⟨rfl, by rw [hkl]; rfl⟩, (List.nil_sublist _), (by simp)⟩

theorem small_ok (l : List File) : AC Try.prog 10 [files l] [] (fun r n => n = [] ∧ (r = .v (.int .i64 0) ∨ (r = .v (.int .i64 1) ∧ l.length ≤ 12 ∧ ∀ f ∈ l, f.name.size ≤ 40 ∧ f.data.length ≤ 300))) := by
  refine ac_of_awp (rs := [2]) (nt := 25) Try.func10 rfl rfl rfl rfl (fun w0 C0 hq => ?_)
  refine awp_seq ?_
  refine awp_region ?_
  refine r_assign rfl rfl ?_
  refine awl_nil ?_
  refine x_then ?_
  refine awp_seq ?_
  refine awp_seq ?_
  refine awp_region ?_
  refine r_move rfl rfl ?_
  first | (refine r_lenS rfl rfl TF.sl22 rfl ?_) | (refine r_lenNil rfl TF.sl22 rfl ?_) | (refine r_lenV rfl TF.sl22 rfl ?_)
  refine r_cmp rfl rfl rfl rfl ?_
  refine awl_nil ?_
  refine x_then ?_
  refine awp_cond rfl (fun hc0 => ?_) (fun hc0 => ?_)
  ·
    refine awp_seq ?_
    refine awp_region ?_
    refine r_assign rfl rfl ?_
    refine awl_nil ?_
    refine x_then ?_
    refine awp_ret ?_
    refine x_thenR ?_
    exact ⟨(.inl rfl), _, [], (.one (by first | exact .mk rfl rfl | exact .nil rfl)), ⟨rfl, by first | exact .inl rfl | exact .inr ⟨rfl, hl12, all_end hge hq2⟩⟩, (List.nil_sublist _), (by simp)⟩
  ·
    have hl12 : l.length ≤ 12 := by have := of_decide_eq_false hc0; simp at this; omega
    have hl : l.length ≤ 1000000 := by omega
    refine awp_skip ?_
    refine x_then ?_
    refine awp_seq ?_
    refine awp_seq ?_
    refine awp_region ?_
    refine r_move rfl rfl ?_
    first | (refine r_lenS rfl rfl TF.sl22 rfl ?_) | (refine r_lenNil rfl TF.sl22 rfl ?_) | (refine r_lenV rfl TF.sl22 rfl ?_)
    refine r_move rfl rfl ?_
    refine awl_nil ?_
    refine x_then ?_
    refine awp_block ?_
    refine awp_loop (fun nn0 S => ∃ k : Nat, S = ⟨25, [(8, .a (files l)), (9, .a (.v (.int .i64 ((l.map File.cs).length)))), (10, .a (.v (.int .i64 ((k : Int)))))], []⟩ ∧ nn0 = l.length - k ∧ (k ≤ l.length) ∧ (∀ f ∈ l.take k, f.name.size ≤ 40 ∧ f.data.length ≤ 300)) (l.length - (0)) ⟨25, [(8, .a (files l)), (9, .a (.v (.int .i64 ((l.map File.cs).length)))), (10, .a (.v (.int .i64 (((0) : Int)))))], []⟩ ⟨rfl, (Slots.cons rfl (by first | exact .refl _ | exact .nilOwn _ _ | exact .nilSl _ | exact .ownSl _ _ _  | exact SV.le.of_eq (by simp)) (Slots.cons rfl (by first | exact .refl _ | exact .nilOwn _ _ | exact .nilSl _ | exact .ownSl _ _ _  | exact SV.le.of_eq (by simp)) (Slots.cons rfl (by first | exact .refl _ | exact .nilOwn _ _ | exact .nilSl _ | exact .ownSl _ _ _  | exact SV.le.of_eq (by simp)) Slots.nil))), (by first | exact List.Sublist.refl _ | exact .cons_cons _ (.cons _ (.refl _)) | exact List.nil_sublist _ | exact .cons _ (.refl _) | exact .cons _ (.cons _ (.refl _)) | exact .cons _ (.cons _ (.cons _ (.refl _))) | exact .cons _ (.cons _ (.cons _ (.cons _ (.refl _)))) | exact .cons_cons _ (List.nil_sublist _))⟩ ⟨0, rfl, rfl, Nat.zero_le _, (fun f hf => by simp at hf)⟩ ?_
    rintro nn0 _ ⟨k, rfl, rfl, hk, hq2⟩
    refine awp_seq ?_
    refine awp_region ?_
    refine r_cmp rfl rfl rfl rfl ?_
    refine awl_nil ?_
    refine x_then ?_
    refine awp_seq ?_
    refine awp_cond rfl (fun hc1 => ?_) (fun hc1 => ?_)
    ·
      have hltx : k < l.length := by have := of_decide_eq_true hc1; simpa using this
      obtain ⟨x, hx⟩ := get_lt hltx
      refine awp_skip ?_
      refine x_then ?_
      refine awp_seq ?_
      refine awp_block ?_
      refine awp_seq ?_
      refine awp_region ?_
      refine r_index rfl rfl rfl TF.sl22 TF.sz54 (by omega) (get_map hx) rfl ?_
      refine r_loadA rfl TF.agg54 TF.sz54 rfl rfl ?_
      refine r_alloc TF.zero54 rfl (fun b4 => ?_)
      refine r_store 0 rfl rfl rfl TF.sz54 rfl rfl rfl ?_
      refine awl_nil ?_
      refine x_then ?_
      refine awp_seq ?_
      refine awp_region ?_
      first | (refine r_fieldb rfl TF.f54_0 TF.sz9 rfl ?_) | (refine r_fieldcp rfl TF.f54_0 TF.sz9 rfl ?_)
      first | (refine r_load1b 0 rfl rfl rfl TF.agg9 rfl ?_) | (refine r_load1 rfl TF.agg9 rfl ?_)
      refine r_lenStr rfl TF.un9 rfl ?_
      refine r_cmp rfl rfl rfl rfl ?_
      refine r_move rfl rfl ?_
      refine g_cases (t' := 18) rfl (fun hg18 => ?_) (fun hg18 => ?_)
      ·
        refine g_skip rfl rfl hg18 rfl ?_
        refine g_skip rfl rfl hg18 rfl ?_
        refine g_skip rfl rfl hg18 rfl ?_
        refine g_skip rfl rfl hg18 rfl ?_
        refine r_pickT rfl hg18 rfl rfl ?_
        refine awl_nil ?_
        refine x_then ?_
        refine awp_condT rfl ?_
        refine awp_seq ?_
        refine awp_region ?_
        refine r_assign rfl rfl ?_
        refine awl_nil ?_
        refine x_then ?_
        refine awp_ret ?_
        refine x_blockR ?_
        refine x_thenR ?_
        refine x_thenR ?_
        refine x_blockR ?_
        refine x_thenR ?_
        exact ⟨(.inl rfl), _, [], (.one (by first | exact .mk rfl rfl | exact .nil rfl)), ⟨rfl, by first | exact .inl rfl | exact .inr ⟨rfl, hl12, all_end hge hq2⟩⟩, (List.nil_sublist _), (by simp)⟩
      ·
        have hxn : x.name.size ≤ 40 := by have := of_decide_eq_false hg18; omega
        refine g_run rfl rfl hg18 ?_
        first | (refine r_fieldb rfl TF.f54_1 TF.sz34 rfl ?_) | (refine r_fieldcp rfl TF.f54_1 TF.sz34 rfl ?_)
        refine g_run rfl rfl hg18 ?_
        first | (refine r_load1b 0 rfl rfl rfl TF.agg34 rfl ?_) | (refine r_load1 rfl TF.agg34 rfl ?_)
        refine g_run rfl rfl hg18 ?_
        first | (refine r_lenS rfl rfl TF.sl34 rfl ?_) | (refine r_lenNil rfl TF.sl34 rfl ?_) | (refine r_lenV rfl TF.sl34 rfl ?_)
        refine g_run rfl rfl hg18 ?_
        refine r_cmp rfl rfl rfl rfl ?_
        refine r_pickF rfl hg18 rfl rfl ?_
        refine awl_nil ?_
        refine x_then ?_
        refine awp_cond rfl (fun hc2 => ?_) (fun hc2 => ?_)
        ·
          refine awp_seq ?_
          refine awp_region ?_
          refine r_assign rfl rfl ?_
          refine awl_nil ?_
          refine x_then ?_
          refine awp_ret ?_
          refine x_blockR ?_
          refine x_thenR ?_
          refine x_thenR ?_
          refine x_blockR ?_
          refine x_thenR ?_
          exact ⟨(.inl rfl), _, [], (.one (by first | exact .mk rfl rfl | exact .nil rfl)), ⟨rfl, by first | exact .inl rfl | exact .inr ⟨rfl, hl12, all_end hge hq2⟩⟩, (List.nil_sublist _), (by simp)⟩
        ·
          have hxd : x.data.length ≤ 300 := by have := of_decide_eq_false hc2; rw [u8s_len] at this; omega
          refine awp_skip ?_
          refine x_block ?_
          refine x_then ?_
          refine awp_region ?_
          refine r_ari _ rfl rfl rfl (wrap_id (by first | omega | (simp; omega))) rfl ?_
          refine r_move rfl rfl ?_
          refine awl_nil ?_
          refine x_then ?_
          refine ⟨l.length - (k + 1), ⟨25, [(8, .a (files l)), (9, .a (.v (.int .i64 ((l.map File.cs).length)))), (10, .a (.v (.int .i64 (((k + 1) : Int)))))], []⟩, ⟨rfl, (Slots.cons rfl (by first | exact .refl _ | exact .nilOwn _ _ | exact .nilSl _ | exact .ownSl _ _ _  | exact SV.le.of_eq (by simp)) (Slots.cons rfl (by first | exact .refl _ | exact .nilOwn _ _ | exact .nilSl _ | exact .ownSl _ _ _  | exact SV.le.of_eq (by simp)) (Slots.cons rfl (by first | exact .refl _ | exact .nilOwn _ _ | exact .nilSl _ | exact .ownSl _ _ _  | exact SV.le.of_eq (by simp)) Slots.nil))), (by first | exact List.Sublist.refl _ | exact .cons_cons _ (.cons _ (.refl _)) | exact List.nil_sublist _ | exact .cons _ (.refl _) | exact .cons _ (.cons _ (.refl _)) | exact .cons _ (.cons _ (.cons _ (.refl _))) | exact .cons _ (.cons _ (.cons _ (.cons _ (.refl _)))) | exact .cons_cons _ (List.nil_sublist _))⟩, (by omega), ⟨k + 1, rfl, rfl, (by omega), (all_takeS hx hq2 ⟨hxn, hxd⟩)⟩⟩
    ·
      have hge : l.length ≤ k := by have := of_decide_eq_false hc1; simp at this; omega
      refine awp_exit ?_
      refine x_thenE ?_
      refine x_thenE ?_
      refine x_blockE ?_
      refine x_then ?_
      refine awp_seq ?_
      refine awp_region ?_
      refine r_assign rfl rfl ?_
      refine awl_nil ?_
      refine x_then ?_
      refine awp_ret ?_
      exact ⟨(.inl rfl), _, [], (.one (by first | exact .mk rfl rfl | exact .nil rfl)), ⟨rfl, by first | exact .inl rfl | exact .inr ⟨rfl, hl12, all_end hge hq2⟩⟩, (List.nil_sublist _), (by simp)⟩

theorem alike_ok (l : List File) (hl : l.length ≤ 1000000) : AC Try.prog 15 [files l, files l] [] (fun r n => n = [] ∧ r = .v (.int .i64 1)) := by
  refine ac_of_awp (rs := [4]) (nt := 43) Try.func15 rfl rfl rfl rfl (fun w0 C0 hq => ?_)
  refine awp_seq ?_
  refine awp_region ?_
  refine r_assign rfl rfl ?_
  refine awl_nil ?_
  refine x_then ?_
  refine awp_seq ?_
  refine awp_seq ?_
  refine awp_region ?_
  refine r_move rfl rfl ?_
  first | (refine r_lenS rfl rfl TF.sl25 rfl ?_) | (refine r_lenNil rfl TF.sl25 rfl ?_) | (refine r_lenV rfl TF.sl25 rfl ?_)
  refine r_move rfl rfl ?_
  first | (refine r_lenS rfl rfl TF.sl22 rfl ?_) | (refine r_lenNil rfl TF.sl22 rfl ?_) | (refine r_lenV rfl TF.sl22 rfl ?_)
  refine r_cmp rfl rfl rfl rfl ?_
  refine awl_nil ?_
  refine x_then ?_
  refine awp_cond rfl (fun hc0 => ?_) (fun hc0 => ?_)
  ·
    exfalso; simp at hc0
  ·
    refine awp_skip ?_
    refine x_then ?_
    refine awp_seq ?_
    refine awp_seq ?_
    refine awp_region ?_
    refine r_move rfl rfl ?_
    first | (refine r_lenS rfl rfl TF.sl25 rfl ?_) | (refine r_lenNil rfl TF.sl25 rfl ?_) | (refine r_lenV rfl TF.sl25 rfl ?_)
    refine r_move rfl rfl ?_
    refine awl_nil ?_
    refine x_then ?_
    refine awp_block ?_
    refine awp_loop (fun nn0 S => ∃ k : Nat, S = ⟨43, [(0, .a (files l)), (1, .a (files l)), (12, .a (.v (.int .i64 ((l.map File.cs).length)))), (13, .a (.v (.int .i64 ((k : Int)))))], []⟩ ∧ nn0 = l.length - k ∧ (k ≤ l.length)) (l.length - (0)) ⟨43, [(0, .a (files l)), (1, .a (files l)), (12, .a (.v (.int .i64 ((l.map File.cs).length)))), (13, .a (.v (.int .i64 (((0) : Int)))))], []⟩ ⟨rfl, (Slots.cons rfl (by first | exact .refl _ | exact .nilOwn _ _ | exact .nilSl _ | exact .ownSl _ _ _  | exact SV.le.of_eq (by simp)) (Slots.cons rfl (by first | exact .refl _ | exact .nilOwn _ _ | exact .nilSl _ | exact .ownSl _ _ _  | exact SV.le.of_eq (by simp)) (Slots.cons rfl (by first | exact .refl _ | exact .nilOwn _ _ | exact .nilSl _ | exact .ownSl _ _ _  | exact SV.le.of_eq (by simp)) (Slots.cons rfl (by first | exact .refl _ | exact .nilOwn _ _ | exact .nilSl _ | exact .ownSl _ _ _  | exact SV.le.of_eq (by simp)) Slots.nil)))), (by first | exact List.Sublist.refl _ | exact .cons_cons _ (.cons _ (.refl _)) | exact List.nil_sublist _ | exact .cons _ (.refl _) | exact .cons _ (.cons _ (.refl _)) | exact .cons _ (.cons _ (.cons _ (.refl _))) | exact .cons _ (.cons _ (.cons _ (.cons _ (.refl _)))) | exact .cons_cons _ (List.nil_sublist _))⟩ ⟨0, rfl, rfl, Nat.zero_le _⟩ ?_
    rintro nn0 _ ⟨k, rfl, rfl, hk⟩
    refine awp_seq ?_
    refine awp_region ?_
    refine r_cmp rfl rfl rfl rfl ?_
    refine awl_nil ?_
    refine x_then ?_
    refine awp_seq ?_
    refine awp_cond rfl (fun hc1 => ?_) (fun hc1 => ?_)
    ·
      have hltx : k < l.length := by have := of_decide_eq_true hc1; simpa using this
      obtain ⟨x, hx⟩ := get_lt hltx
      refine awp_skip ?_
      refine x_then ?_
      refine awp_seq ?_
      refine awp_block ?_
      refine awp_seq ?_
      refine awp_region ?_
      refine r_move rfl rfl ?_
      refine r_assign rfl rfl ?_
      refine awl_nil ?_
      refine x_then ?_
      refine awp_seq ?_
      refine awp_drawS [16, 17, 18, 19, 20, 21, 22, 23, 24, 25, 26, 27, 28, 29, 30, 31, 32, 33, 34, 35, 36, 37, 38, 39] [_, _, _, _, _, _, _, _, _, _, _, _, _, _, _, _, _, _, _, _, _, _, _, _] [] [] TF.mixed rfl rfl rfl ⟨⟨⟨⟨⟨⟨⟨⟨⟨⟨⟨⟨⟨⟨⟨⟨⟨⟨⟨⟨⟨⟨⟨⟨trivial
        , ⟨_, rfl, fun sl hd hr ho => by
            refine r_move (hr 0 _ rfl rfl rfl) rfl ?_
            exact awl_nil ⟨rfl, post_put⟩⟩⟩
        , ⟨_, rfl, fun sl hd hr ho => by
            refine r_move (hr 5 _ rfl rfl rfl) rfl ?_
            exact awl_nil ⟨rfl, post_put⟩⟩⟩
        , ⟨_, rfl, fun sl hd hr ho => by
            refine r_index (hd 0 _ rfl rfl rfl) rfl (hd 1 _ rfl rfl rfl) TF.sl25 TF.sz48 (by omega) (get_map hx) rfl ?_
            exact awl_nil ⟨rfl, post_put⟩⟩⟩
        , ⟨_, rfl, fun sl hd hr ho => by
            first | (refine r_fieldcp (hd 2 _ rfl rfl rfl) TF.f48_0 TF.sz9 rfl ?_) | (refine r_fieldb (hd 2 _ rfl rfl rfl) TF.f48_0 TF.sz9 rfl ?_)
            exact awl_nil ⟨rfl, post_put⟩⟩⟩
        , ⟨_, rfl, fun sl hd hr ho => by
            refine r_load1 (hd 3 _ rfl rfl rfl) TF.agg9 rfl ?_
            exact awl_nil ⟨rfl, post_put⟩⟩⟩
        , ⟨_, rfl, fun sl hd hr ho => by
            refine r_move (hr 1 _ rfl rfl rfl) rfl ?_
            exact awl_nil ⟨rfl, post_put⟩⟩⟩
        , ⟨_, rfl, fun sl hd hr ho => by
            refine r_move (hr 5 _ rfl rfl rfl) rfl ?_
            exact awl_nil ⟨rfl, post_put⟩⟩⟩
        , ⟨_, rfl, fun sl hd hr ho => by
            refine r_index (hd 5 _ rfl rfl rfl) rfl (hd 6 _ rfl rfl rfl) TF.sl22 TF.sz54 (by omega) (get_map hx) rfl ?_
            exact awl_nil ⟨rfl, post_put⟩⟩⟩
        , ⟨_, rfl, fun sl hd hr ho => by
            first | (refine r_fieldcp (hd 7 _ rfl rfl rfl) TF.f54_0 TF.sz9 rfl ?_) | (refine r_fieldb (hd 7 _ rfl rfl rfl) TF.f54_0 TF.sz9 rfl ?_)
            exact awl_nil ⟨rfl, post_put⟩⟩⟩
        , ⟨_, rfl, fun sl hd hr ho => by
            refine r_load1 (hd 8 _ rfl rfl rfl) TF.agg9 rfl ?_
            exact awl_nil ⟨rfl, post_put⟩⟩⟩
        , ⟨_, rfl, fun sl hd hr ho => by
            refine r_str2 (hd 4 _ rfl rfl rfl) (hd 9 _ rfl rfl rfl) rfl rfl ?_
            exact awl_nil ⟨rfl, post_put⟩⟩⟩
        , ⟨_, rfl, fun sl hd hr ho => by
            refine r_move (hd 10 _ rfl rfl rfl) rfl ?_
            exact awl_nil ⟨rfl, post_put⟩⟩⟩
        , ⟨_, rfl, fun sl hd hr ho => by
            refine g_run rfl (hd 11 _ rfl rfl rfl) (by simp) ?_
            refine r_move (hr 0 _ rfl rfl rfl) rfl ?_
            exact awl_nil ⟨rfl, post_put⟩⟩⟩
        , ⟨_, rfl, fun sl hd hr ho => by
            refine g_run rfl (hd 11 _ rfl rfl rfl) (by simp) ?_
            refine r_move (hr 5 _ rfl rfl rfl) rfl ?_
            exact awl_nil ⟨rfl, post_put⟩⟩⟩
        , ⟨_, rfl, fun sl hd hr ho => by
            refine g_run rfl (hd 11 _ rfl rfl rfl) (by simp) ?_
            refine r_index (hd 12 _ rfl rfl rfl) rfl (hd 13 _ rfl rfl rfl) TF.sl25 TF.sz48 (by omega) (get_map hx) rfl ?_
            exact awl_nil ⟨rfl, post_put⟩⟩⟩
        , ⟨_, rfl, fun sl hd hr ho => by
            refine g_run rfl (hd 11 _ rfl rfl rfl) (by simp) ?_
            first | (refine r_fieldcp (hd 14 _ rfl rfl rfl) TF.f48_1 TF.sz34 rfl ?_) | (refine r_fieldb (hd 14 _ rfl rfl rfl) TF.f48_1 TF.sz34 rfl ?_)
            exact awl_nil ⟨rfl, post_put⟩⟩⟩
        , ⟨_, rfl, fun sl hd hr ho => by
            refine g_run rfl (hd 11 _ rfl rfl rfl) (by simp) ?_
            refine r_load1 (hd 15 _ rfl rfl rfl) TF.agg34 rfl ?_
            exact awl_nil ⟨rfl, post_put⟩⟩⟩
        , ⟨_, rfl, fun sl hd hr ho => by
            refine g_run rfl (hd 11 _ rfl rfl rfl) (by simp) ?_
            refine r_convBS x.data (hd 16 _ rfl rfl rfl) rfl TF.sl34 TF.un5 TF.un9 rfl ?_
            exact awl_nil ⟨rfl, post_put⟩⟩⟩
        , ⟨_, rfl, fun sl hd hr ho => by
            refine g_run rfl (hd 11 _ rfl rfl rfl) (by simp) ?_
            refine r_move (hr 1 _ rfl rfl rfl) rfl ?_
            exact awl_nil ⟨rfl, post_put⟩⟩⟩
        , ⟨_, rfl, fun sl hd hr ho => by
            refine g_run rfl (hd 11 _ rfl rfl rfl) (by simp) ?_
            refine r_move (hr 5 _ rfl rfl rfl) rfl ?_
            exact awl_nil ⟨rfl, post_put⟩⟩⟩
        , ⟨_, rfl, fun sl hd hr ho => by
            refine g_run rfl (hd 11 _ rfl rfl rfl) (by simp) ?_
            refine r_index (hd 18 _ rfl rfl rfl) rfl (hd 19 _ rfl rfl rfl) TF.sl22 TF.sz54 (by omega) (get_map hx) rfl ?_
            exact awl_nil ⟨rfl, post_put⟩⟩⟩
        , ⟨_, rfl, fun sl hd hr ho => by
            refine g_run rfl (hd 11 _ rfl rfl rfl) (by simp) ?_
            first | (refine r_fieldcp (hd 20 _ rfl rfl rfl) TF.f54_1 TF.sz34 rfl ?_) | (refine r_fieldb (hd 20 _ rfl rfl rfl) TF.f54_1 TF.sz34 rfl ?_)
            exact awl_nil ⟨rfl, post_put⟩⟩⟩
        , ⟨_, rfl, fun sl hd hr ho => by
            refine g_run rfl (hd 11 _ rfl rfl rfl) (by simp) ?_
            refine r_load1 (hd 21 _ rfl rfl rfl) TF.agg34 rfl ?_
            exact awl_nil ⟨rfl, post_put⟩⟩⟩
        , ⟨_, rfl, fun sl hd hr ho => by
            refine g_run rfl (hd 11 _ rfl rfl rfl) (by simp) ?_
            refine r_convBS x.data (hd 22 _ rfl rfl rfl) rfl TF.sl34 TF.un5 TF.un9 rfl ?_
            exact awl_nil ⟨rfl, post_put⟩⟩⟩
        (by rfl) ?_
      refine g_run rfl rfl (by simp) ?_
      refine r_str2 rfl rfl rfl rfl ?_
      refine r_pickF rfl (by simp) rfl rfl ?_
      refine awl_nil ?_
      refine x_then ?_
      refine awp_cond rfl (fun hc2 => ?_) (fun hc2 => ?_)
      ·
        exfalso; simp at hc2
      ·
        refine awp_skip ?_
        refine x_block ?_
        refine x_then ?_
        refine awp_region ?_
        refine r_ari _ rfl rfl rfl (wrap_id (by first | omega | (simp; omega))) rfl ?_
        refine r_move rfl rfl ?_
        refine awl_nil ?_
        refine x_then ?_
        refine ⟨l.length - (k + 1), ⟨43, [(0, .a (files l)), (1, .a (files l)), (12, .a (.v (.int .i64 ((l.map File.cs).length)))), (13, .a (.v (.int .i64 (((k + 1) : Int)))))], []⟩, ⟨rfl, (Slots.cons rfl (by first | exact .refl _ | exact .nilOwn _ _ | exact .nilSl _ | exact .ownSl _ _ _  | exact SV.le.of_eq (by simp)) (Slots.cons rfl (by first | exact .refl _ | exact .nilOwn _ _ | exact .nilSl _ | exact .ownSl _ _ _  | exact SV.le.of_eq (by simp)) (Slots.cons rfl (by first | exact .refl _ | exact .nilOwn _ _ | exact .nilSl _ | exact .ownSl _ _ _  | exact SV.le.of_eq (by simp)) (Slots.cons rfl (by first | exact .refl _ | exact .nilOwn _ _ | exact .nilSl _ | exact .ownSl _ _ _  | exact SV.le.of_eq (by simp)) Slots.nil)))), (by first | exact List.Sublist.refl _ | exact .cons_cons _ (.cons _ (.refl _)) | exact List.nil_sublist _ | exact .cons _ (.refl _) | exact .cons _ (.cons _ (.refl _)) | exact .cons _ (.cons _ (.cons _ (.refl _))) | exact .cons _ (.cons _ (.cons _ (.cons _ (.refl _)))) | exact .cons_cons _ (List.nil_sublist _))⟩, (by omega), ⟨k + 1, rfl, rfl, (by omega)⟩⟩
    ·
      refine awp_exit ?_
      refine x_thenE ?_
      refine x_thenE ?_
      refine x_blockE ?_
      refine x_then ?_
      refine awp_seq ?_
      refine awp_region ?_
      refine r_assign rfl rfl ?_
      refine awl_nil ?_
      refine x_then ?_
      refine awp_ret ?_
      exact ⟨(.inl rfl), _, [], (.one (by first | exact .mk rfl rfl | exact .nil rfl)), ⟨rfl, rfl⟩, (List.nil_sublist _), (by simp)⟩

theorem fsame1_ok (x y : File) : AC Try.prog 40 [.agg (File.cs x), .agg (File.cs y)] [] (fun r n => n = [] ∧ r = boolA (decide (x.name = y.name) && decide (x.data = y.data))) := by
  refine ac_of_awp (rs := [4]) (nt := 17) Try.func40 rfl rfl rfl rfl (fun w0 C0 hq => ?_)
  refine awp_seq ?_
  refine awp_region ?_
  refine r_box rfl rfl rfl (fun b2 => ?_)
  refine r_box rfl rfl rfl (fun b3 => ?_)
  refine r_assign rfl rfl ?_
  refine awl_nil ?_
  refine x_then ?_
  refine awp_seq ?_
  refine awp_region ?_
  first | (refine r_fieldb rfl TF.f48_0 TF.sz9 rfl ?_) | (refine r_fieldcp rfl TF.f48_0 TF.sz9 rfl ?_)
  refine r_load1b 1 rfl rfl rfl TF.agg9 rfl ?_
  first | (refine r_fieldb rfl TF.f48_0 TF.sz9 rfl ?_) | (refine r_fieldcp rfl TF.f48_0 TF.sz9 rfl ?_)
  refine r_load1b 0 rfl rfl rfl TF.agg9 rfl ?_
  refine r_str2 rfl rfl rfl rfl ?_
  refine r_move rfl rfl ?_
  refine g_cases (t' := 10) rfl (fun hg10 => ?_) (fun hg10 => ?_)
  ·
    have h1 : x.name = y.name := by simpa using hg10
    refine g_run rfl rfl hg10 ?_
    first | (refine r_fieldb rfl TF.f48_1 TF.sz34 rfl ?_) | (refine r_fieldcp rfl TF.f48_1 TF.sz34 rfl ?_)
    refine g_run rfl rfl hg10 ?_
    refine r_load1b 1 rfl rfl rfl TF.agg34 rfl ?_
    refine g_run rfl rfl hg10 ?_
    first | (refine r_fieldb rfl TF.f48_1 TF.sz34 rfl ?_) | (refine r_fieldcp rfl TF.f48_1 TF.sz34 rfl ?_)
    refine g_run rfl rfl hg10 ?_
    refine r_load1b 0 rfl rfl rfl TF.agg34 rfl ?_
    refine g_run rfl rfl hg10 ?_
    refine r_call0 hq rfl rfl (.cons (.ev rfl rfl) (.cons (.ev rfl rfl) .nil)) (equal_ok x.data y.data) rfl TF.en27 rfl (fun r hr => ?_)
    obtain rfl := hr
    refine r_pickT rfl hg10 rfl rfl ?_
    refine r_assign rfl rfl ?_
    refine awl_nil ?_
    refine x_then ?_
    refine awp_ret ?_
    exact ⟨(.inl rfl), _, [], (.one (by first | exact .mk rfl rfl | exact .nil rfl)), ⟨rfl, by first | (rw [decide_eq_true h1, Bool.true_and]; rfl) | (rw [decide_eq_false h1, Bool.false_and]; rfl)⟩, (List.nil_sublist _), (by simp)⟩
  ·
    have h1 : ¬ x.name = y.name := by simpa using hg10
    refine g_skip rfl rfl hg10 rfl ?_
    refine g_skip rfl rfl hg10 rfl ?_
    refine g_skip rfl rfl hg10 rfl ?_
    refine g_skip rfl rfl hg10 rfl ?_
    refine g_skip rfl rfl hg10 rfl ?_
    refine r_pickF rfl hg10 rfl rfl ?_
    refine r_assign rfl rfl ?_
    refine awl_nil ?_
    refine x_then ?_
    refine awp_ret ?_
    exact ⟨(.inl rfl), _, [], (.one (by first | exact .mk rfl rfl | exact .nil rfl)), ⟨rfl, by first | (rw [decide_eq_true h1, Bool.true_and]; rfl) | (rw [decide_eq_false h1, Bool.false_and]; rfl)⟩, (List.nil_sublist _), (by simp)⟩

theorem eqf_ok (l : List File) (hl : l.length ≤ 1000000) : AC Try.prog 39 [files l, files l, .fn 40 []] [] (fun r n => n = [] ∧ r = boolA true) := by
  refine ac_of_awp (rs := [6]) (nt := 32) Try.func39 rfl rfl rfl rfl (fun w0 C0 hq => ?_)
  refine awp_seq ?_
  refine awp_region ?_
  refine r_assign rfl rfl ?_
  refine awl_nil ?_
  refine x_then ?_
  refine awp_seq ?_
  refine awp_seq ?_
  refine awp_region ?_
  refine r_move rfl rfl ?_
  first | (refine r_lenS rfl rfl TF.sl25 rfl ?_) | (refine r_lenNil rfl TF.sl25 rfl ?_) | (refine r_lenV rfl TF.sl25 rfl ?_)
  refine r_move rfl rfl ?_
  first | (refine r_lenS rfl rfl TF.sl25 rfl ?_) | (refine r_lenNil rfl TF.sl25 rfl ?_) | (refine r_lenV rfl TF.sl25 rfl ?_)
  refine r_cmp rfl rfl rfl rfl ?_
  refine awl_nil ?_
  refine x_then ?_
  refine awp_cond rfl (fun hc0 => ?_) (fun hc0 => ?_)
  ·
    exfalso; simp at hc0
  ·
    refine awp_skip ?_
    refine x_then ?_
    refine awp_seq ?_
    refine awp_seq ?_
    refine awp_region ?_
    refine r_move rfl rfl ?_
    first | (refine r_lenS rfl rfl TF.sl25 rfl ?_) | (refine r_lenNil rfl TF.sl25 rfl ?_) | (refine r_lenV rfl TF.sl25 rfl ?_)
    refine r_move rfl rfl ?_
    refine awl_nil ?_
    refine x_then ?_
    refine awp_block ?_
    refine awp_loop (fun nn0 S => ∃ k : Nat, S = ⟨32, [(1, .a (files l)), (2, .a (.fn 40 [])), (15, .a (files l)), (16, .a (.v (.int .i64 ((l.map File.cs).length)))), (17, .a (.v (.int .i64 ((k : Int)))))], []⟩ ∧ nn0 = l.length - k ∧ (k ≤ l.length)) (l.length - (0)) ⟨32, [(1, .a (files l)), (2, .a (.fn 40 [])), (15, .a (files l)), (16, .a (.v (.int .i64 ((l.map File.cs).length)))), (17, .a (.v (.int .i64 (((0) : Int)))))], []⟩ ⟨rfl, (Slots.cons rfl (by first | exact .refl _ | exact .nilOwn _ _ | exact .nilSl _ | exact .ownSl _ _ _  | exact SV.le.of_eq (by simp)) (Slots.cons rfl (by first | exact .refl _ | exact .nilOwn _ _ | exact .nilSl _ | exact .ownSl _ _ _  | exact SV.le.of_eq (by simp)) (Slots.cons rfl (by first | exact .refl _ | exact .nilOwn _ _ | exact .nilSl _ | exact .ownSl _ _ _  | exact SV.le.of_eq (by simp)) (Slots.cons rfl (by first | exact .refl _ | exact .nilOwn _ _ | exact .nilSl _ | exact .ownSl _ _ _  | exact SV.le.of_eq (by simp)) (Slots.cons rfl (by first | exact .refl _ | exact .nilOwn _ _ | exact .nilSl _ | exact .ownSl _ _ _  | exact SV.le.of_eq (by simp)) Slots.nil))))), (by first | exact List.Sublist.refl _ | exact .cons_cons _ (.cons _ (.refl _)) | exact List.nil_sublist _ | exact .cons _ (.refl _) | exact .cons _ (.cons _ (.refl _)) | exact .cons _ (.cons _ (.cons _ (.refl _))) | exact .cons _ (.cons _ (.cons _ (.cons _ (.refl _)))) | exact .cons_cons _ (List.nil_sublist _))⟩ ⟨0, rfl, rfl, Nat.zero_le _⟩ ?_
    rintro nn0 _ ⟨k, rfl, rfl, hk⟩
    refine awp_seq ?_
    refine awp_region ?_
    refine r_cmp rfl rfl rfl rfl ?_
    refine awl_nil ?_
    refine x_then ?_
    refine awp_seq ?_
    refine awp_cond rfl (fun hc1 => ?_) (fun hc1 => ?_)
    ·
      have hltx : k < l.length := by have := of_decide_eq_true hc1; simpa using this
      obtain ⟨x, hx⟩ := get_lt hltx
      refine awp_skip ?_
      refine x_then ?_
      refine awp_seq ?_
      refine awp_block ?_
      refine awp_seq ?_
      refine awp_region ?_
      refine r_move rfl rfl ?_
      refine r_index rfl rfl rfl TF.sl25 TF.sz48 (by omega) (get_map hx) rfl ?_
      refine r_loadA rfl TF.agg48 TF.sz48 rfl rfl ?_
      refine r_alloc TF.zero48 rfl (fun b8 => ?_)
      refine r_assign rfl rfl ?_
      refine r_store 0 rfl rfl rfl TF.sz48 rfl rfl rfl ?_
      refine awl_nil ?_
      refine x_then ?_
      refine awp_seq ?_
      refine awp_region ?_
      refine r_move rfl rfl ?_
      refine r_move rfl rfl ?_
      refine r_index rfl rfl rfl TF.sl25 TF.sz48 (by omega) (get_map hx) rfl ?_
      first | (refine r_loadA rfl TF.agg48 TF.sz48 rfl rfl ?_) | (refine r_loadAb 0 rfl rfl TF.agg48 TF.sz48 rfl rfl ?_)
      refine r_alloc TF.zero48 rfl (fun b9 => ?_)
      first | (refine r_store 0 rfl rfl rfl TF.sz48 rfl rfl rfl ?_) | (refine r_store 1 rfl rfl rfl TF.sz48 rfl rfl rfl ?_)
      refine awl_nil ?_
      refine x_then ?_
      refine awp_seq ?_
      refine awp_region ?_
      refine r_move rfl rfl ?_
      refine r_loadAb 1 rfl rfl TF.agg48 TF.sz48 rfl rfl ?_
      refine r_loadAb 0 rfl rfl TF.agg48 TF.sz48 rfl rfl ?_
      refine r_call0 hq rfl rfl (.cons (.ev rfl rfl) (.cons (.ev rfl rfl) .nil)) (fsame1_ok x x) rfl TF.en40 rfl (fun r hr => ?_)
      obtain rfl := hr
      refine r_not rfl rfl ?_
      refine awl_nil ?_
      refine x_then ?_
      refine awp_cond rfl (fun hc2 => ?_) (fun hc2 => ?_)
      ·
        exfalso; simp at hc2
      ·
        refine awp_skip ?_
        refine x_block ?_
        refine x_then ?_
        refine awp_region ?_
        refine r_ari _ rfl rfl rfl (wrap_id (by first | omega | (simp; omega))) rfl ?_
        refine r_move rfl rfl ?_
        refine awl_nil ?_
        refine x_then ?_
        refine ⟨l.length - (k + 1), ⟨32, [(1, .a (files l)), (2, .a (.fn 40 [])), (15, .a (files l)), (16, .a (.v (.int .i64 ((l.map File.cs).length)))), (17, .a (.v (.int .i64 (((k + 1) : Int)))))], []⟩, ⟨rfl, (Slots.cons rfl (by first | exact .refl _ | exact .nilOwn _ _ | exact .nilSl _ | exact .ownSl _ _ _  | exact SV.le.of_eq (by simp)) (Slots.cons rfl (by first | exact .refl _ | exact .nilOwn _ _ | exact .nilSl _ | exact .ownSl _ _ _  | exact SV.le.of_eq (by simp)) (Slots.cons rfl (by first | exact .refl _ | exact .nilOwn _ _ | exact .nilSl _ | exact .ownSl _ _ _  | exact SV.le.of_eq (by simp)) (Slots.cons rfl (by first | exact .refl _ | exact .nilOwn _ _ | exact .nilSl _ | exact .ownSl _ _ _  | exact SV.le.of_eq (by simp)) (Slots.cons rfl (by first | exact .refl _ | exact .nilOwn _ _ | exact .nilSl _ | exact .ownSl _ _ _  | exact SV.le.of_eq (by simp)) Slots.nil))))), (by first | exact List.Sublist.refl _ | exact .cons_cons _ (.cons _ (.refl _)) | exact List.nil_sublist _ | exact .cons _ (.refl _) | exact .cons _ (.cons _ (.refl _)) | exact .cons _ (.cons _ (.cons _ (.refl _))) | exact .cons _ (.cons _ (.cons _ (.cons _ (.refl _)))) | exact .cons_cons _ (List.nil_sublist _))⟩, (by omega), ⟨k + 1, rfl, rfl, (by omega)⟩⟩
    ·
      refine awp_exit ?_
      refine x_thenE ?_
      refine x_thenE ?_
      refine x_blockE ?_
      refine x_then ?_
      refine awp_seq ?_
      refine awp_region ?_
      refine r_assign rfl rfl ?_
      refine awl_nil ?_
      refine x_then ?_
      refine awp_ret ?_
      exact ⟨(.inl rfl), _, [], (.one (by first | exact .mk rfl rfl | exact .nil rfl)), ⟨rfl, rfl⟩, (List.nil_sublist _), (by simp)⟩

theorem fsame_ok (l : List File) (hl : l.length ≤ 1000000) : AC Try.prog 22 [files l, files l] [] (fun r n => n = [] ∧ r = boolA true) := by
  refine ac_of_awp (rs := [4]) (nt := 8) Try.func22 rfl rfl rfl rfl (fun w0 C0 hq => ?_)
  refine awp_seq ?_
  refine awp_region ?_
  refine r_assign rfl rfl ?_
  refine awl_nil ?_
  refine x_then ?_
  refine awp_seq ?_
  refine awp_region ?_
  refine r_move rfl rfl ?_
  refine r_move rfl rfl ?_
  refine r_call0 hq rfl rfl (.cons (.ev rfl rfl) (.cons (.ev rfl rfl) (.cons (.ev rfl rfl) .nil))) (eqf_ok l hl) rfl TF.en39 rfl (fun r hr => ?_)
  obtain rfl := hr
  refine r_assign rfl rfl ?_
  refine awl_nil ?_
  refine x_then ?_
  refine awp_ret ?_
  exact ⟨(.inl rfl), _, [], (.one (by first | exact .mk rfl rfl | exact .nil rfl)), ⟨rfl, rfl⟩, (List.nil_sublist _), (by simp)⟩

theorem find_ok (l : List File) (name : ByteArray) (hl : l.length ≤ 1000000) : AC Try.prog 33 [files l, strA name] [] (fun r n => n = [] ∧ r = .v (.int .i64 (optI (l.findIdx? (fun f => decide (f.name = name)))))) := by
  refine ac_of_awp (rs := [4]) (nt := 20) Try.func33 rfl rfl rfl rfl (fun w0 C0 hq => ?_)
  refine awp_seq ?_
  refine awp_region ?_
  refine r_assign rfl rfl ?_
  refine awl_nil ?_
  refine x_then ?_
  refine awp_seq ?_
  refine awp_seq ?_
  refine awp_region ?_
  refine r_assign rfl rfl ?_
  refine awl_nil ?_
  refine x_then ?_
  refine awp_block ?_
  refine awp_loop (fun nn0 S => ∃ k : Nat, S = ⟨20, [(0, .a (files l)), (1, .a (strA name)), (5, .a (.v (.int .i64 ((k : Int)))))], []⟩ ∧ nn0 = l.length - k ∧ (k ≤ l.length) ∧ ((l.take k).findIdx? (fun x => decide (x.name = name)) = none)) (l.length - (0)) ⟨20, [(0, .a (files l)), (1, .a (strA name)), (5, .a (.v (.int .i64 (((0) : Int)))))], []⟩ ⟨rfl, (Slots.cons rfl (by first | exact .refl _ | exact .nilOwn _ _ | exact .nilSl _ | exact .ownSl _ _ _  | exact SV.le.of_eq (by simp)) (Slots.cons rfl (by first | exact .refl _ | exact .nilOwn _ _ | exact .nilSl _ | exact .ownSl _ _ _  | exact SV.le.of_eq (by simp)) (Slots.cons rfl (by first | exact .refl _ | exact .nilOwn _ _ | exact .nilSl _ | exact .ownSl _ _ _  | exact SV.le.of_eq (by simp)) Slots.nil))), (by first | exact List.Sublist.refl _ | exact .cons_cons _ (.cons _ (.refl _)) | exact List.nil_sublist _ | exact .cons _ (.refl _) | exact .cons _ (.cons _ (.refl _)) | exact .cons _ (.cons _ (.cons _ (.refl _))) | exact .cons _ (.cons _ (.cons _ (.cons _ (.refl _)))) | exact .cons_cons _ (List.nil_sublist _))⟩ ⟨0, rfl, rfl, Nat.zero_le _, rfl⟩ ?_
  rintro nn0 _ ⟨k, rfl, rfl, hk, hno⟩
  refine awp_seq ?_
  refine awp_seq ?_
  refine awp_region ?_
  refine r_move rfl rfl ?_
  refine r_move rfl rfl ?_
  first | (refine r_lenS rfl rfl TF.sl22 rfl ?_) | (refine r_lenNil rfl TF.sl22 rfl ?_) | (refine r_lenV rfl TF.sl22 rfl ?_)
  refine r_cmp rfl rfl rfl rfl ?_
  refine awl_nil ?_
  refine x_then ?_
  refine awp_cond rfl (fun hc0 => ?_) (fun hc0 => ?_)
  ·
    have hltx : k < l.length := by have := of_decide_eq_true hc0; simpa using this
    obtain ⟨x, hx⟩ := get_lt hltx
    refine awp_skip ?_
    refine x_then ?_
    refine awp_seq ?_
    refine awp_block ?_
    refine awp_seq ?_
    refine awp_region ?_
    refine r_move rfl rfl ?_
    refine r_move rfl rfl ?_
    refine r_index rfl rfl rfl TF.sl22 TF.sz54 (by omega) (get_map hx) rfl ?_
    first | (refine r_fieldcp rfl TF.f54_0 TF.sz9 rfl ?_) | (refine r_fieldb rfl TF.f54_0 TF.sz9 rfl ?_)
    refine r_load1 rfl TF.agg9 rfl ?_
    refine r_move rfl rfl ?_
    refine r_str2 rfl rfl rfl rfl ?_
    refine awl_nil ?_
    refine x_then ?_
    refine awp_cond rfl (fun hc1 => ?_) (fun hc1 => ?_)
    ·
      refine awp_seq ?_
      refine awp_region ?_
      refine r_move rfl rfl ?_
      refine r_assign rfl rfl ?_
      refine awl_nil ?_
      refine x_then ?_
      refine awp_ret ?_
      refine x_blockR ?_
      refine x_thenR ?_
      refine x_thenR ?_
      refine x_blockR ?_
      refine x_thenR ?_
      exact ⟨(.inl rfl), _, [], (.one (by first | exact .mk rfl rfl | exact .nil rfl)), ⟨rfl, by rw [fidx_hit hx hc1 hno]; rfl⟩, (List.nil_sublist _), (by simp)⟩
    ·
      refine awp_skip ?_
      refine x_block ?_
      refine x_then ?_
      refine awp_region ?_
      refine r_move rfl rfl ?_
      refine r_ari _ rfl rfl rfl (wrap_id (by first | omega | (simp; omega))) rfl ?_
      refine r_assign rfl rfl ?_
      refine awl_nil ?_
      refine x_then ?_
      refine ⟨l.length - (k + 1), ⟨20, [(0, .a (files l)), (1, .a (strA name)), (5, .a (.v (.int .i64 (((k + 1) : Int)))))], []⟩, ⟨rfl, (Slots.cons rfl (by first | exact .refl _ | exact .nilOwn _ _ | exact .nilSl _ | exact .ownSl _ _ _  | exact SV.le.of_eq (by simp)) (Slots.cons rfl (by first | exact .refl _ | exact .nilOwn _ _ | exact .nilSl _ | exact .ownSl _ _ _  | exact SV.le.of_eq (by simp)) (Slots.cons rfl (by first | exact .refl _ | exact .nilOwn _ _ | exact .nilSl _ | exact .ownSl _ _ _  | exact SV.le.of_eq (by simp)) Slots.nil))), (by first | exact List.Sublist.refl _ | exact .cons_cons _ (.cons _ (.refl _)) | exact List.nil_sublist _ | exact .cons _ (.refl _) | exact .cons _ (.cons _ (.refl _)) | exact .cons _ (.cons _ (.cons _ (.refl _))) | exact .cons _ (.cons _ (.cons _ (.cons _ (.refl _)))) | exact .cons_cons _ (List.nil_sublist _))⟩, (by omega), ⟨k + 1, rfl, rfl, (by omega), (fidx_step hx hc1 hno)⟩⟩
  ·
    have hge : l.length ≤ k := by have := of_decide_eq_false hc0; simp at this; omega
    refine awp_exit ?_
    refine x_thenE ?_
    refine x_thenE ?_
    refine x_blockE ?_
    refine x_then ?_
    refine awp_seq ?_
    refine awp_region ?_
    refine r_assign rfl rfl ?_
    refine awl_nil ?_
    refine x_then ?_
    refine awp_ret ?_
    exact ⟨(.inl rfl), _, [], (.one (by first | exact .mk rfl rfl | exact .nil rfl)), ⟨rfl, by rw [fidx_end hge hno]; rfl⟩, (List.nil_sublist _), (by simp)⟩

theorem names_step {l : List File} {k : Nat} {x : File} {acc : List ByteArray} (h : l[k]? = some x) (ha : acc = namesF (l.take k)) : insS acc x.name = namesF (l.take (k + 1)) := by
  rw [ha]; unfold namesF; rw [fold_take h]

set_option maxHeartbeats 1000000 in
theorem rnames_ok (l : List File) (hl : l.length ≤ 1000) : AC Try.prog 38 [files l] [] (fun r n => n = [] ∧ r = strsA (namesF l)) := by
  refine ac_of_awp (rs := [2]) (nt := 64) Try.func38 rfl rfl rfl rfl (fun w0 C0 hq => ?_)
  refine awp_seq ?_
  refine awp_region ?_
  refine r_assign rfl rfl ?_
  refine awl_nil ?_
  refine x_then ?_
  refine awp_seq ?_
  refine awp_region ?_
  refine r_lit 6 (parts := []) rfl TF.sl57 TF.sz9 TF.zraw9 rfl rfl rfl rfl rfl rfl rfl ?_
  refine r_assign rfl rfl ?_
  refine awl_nil ?_
  refine x_then ?_
  refine awp_seq ?_
  refine awp_seq ?_
  refine awp_region ?_
  refine r_assign rfl rfl ?_
  refine awl_nil ?_
  refine x_then ?_
  refine awp_block ?_
  refine awp_loop (fun nn0 S => ∃ i : Nat, ∃ acc : List ByteArray, S = ⟨64, [(0, .a (files l)), (3, .a (strsA acc)), (4, .a (.v (.int .i64 ((i : Int)))))], []⟩ ∧ nn0 = l.length - i ∧ (i ≤ l.length) ∧ (acc = namesF (l.take i)) ∧ (acc.length ≤ i)) (l.length - (0)) ⟨64, [(0, .a (files l)), (3, .a (strsA ([]))), (4, .a (.v (.int .i64 (((0) : Int)))))], []⟩ ⟨rfl, (Slots.cons rfl (by first | exact .refl _ | exact .nilOwn _ _ | exact .nilSl _ | exact .ownSl _ _ _  | exact SV.le.of_eq (by simp)) (Slots.cons rfl (by first | exact .refl _ | exact .nilOwn _ _ | exact .nilSl _ | exact .ownSl _ _ _  | exact SV.le.of_eq (by simp)) (Slots.cons rfl (by first | exact .refl _ | exact .nilOwn _ _ | exact .nilSl _ | exact .ownSl _ _ _  | exact SV.le.of_eq (by simp)) Slots.nil))), (by first | exact List.Sublist.refl _ | exact .cons_cons _ (.cons _ (.refl _)) | exact List.nil_sublist _ | exact .cons _ (.refl _) | exact .cons _ (.cons _ (.refl _)) | exact .cons _ (.cons _ (.cons _ (.refl _))) | exact .cons _ (.cons _ (.cons _ (.cons _ (.refl _)))) | exact .cons_cons _ (List.nil_sublist _))⟩ ⟨0, [], rfl, rfl, Nat.zero_le _, rfl, (by simp)⟩ ?_
  rintro nn0 _ ⟨i, acc, rfl, rfl, hi, hacc, hal⟩
  refine awp_seq ?_
  refine awp_seq ?_
  refine awp_region ?_
  refine r_move rfl rfl ?_
  refine r_move rfl rfl ?_
  first | (refine r_lenS rfl rfl TF.sl22 rfl ?_) | (refine r_lenNil rfl TF.sl22 rfl ?_) | (refine r_lenV rfl TF.sl22 rfl ?_)
  refine r_cmp rfl rfl rfl rfl ?_
  refine awl_nil ?_
  refine x_then ?_
  refine awp_cond rfl (fun hc0 => ?_) (fun hc0 => ?_)
  ·
    have hltx : i < l.length := by have := of_decide_eq_true hc0; simpa using this
    obtain ⟨x, hx⟩ := get_lt hltx
    refine awp_skip ?_
    refine x_then ?_
    refine awp_seq ?_
    refine awp_block ?_
    refine awp_seq ?_
    refine awp_region ?_
    refine r_assign rfl rfl ?_
    refine awl_nil ?_
    refine x_then ?_
    refine awp_cut (fun S => ∃ j : Nat, S = ⟨64, [(0, .a (files l)), (3, .a (strsA acc)), (4, .a (.v (.int .i64 ((i : Int))))), (5, .a (.v (.int .i64 ((j : Int)))))], []⟩ ∧ (j ≤ acc.length) ∧ ((acc.take j).all (ltS · x.name) = true) ∧ (∀ y, acc[j]? = some y → ltS y x.name = false)) ?_ ?_
    ·
      refine awp_block ?_
      refine awp_loop (fun nn0 S => ∃ j : Nat, S = ⟨64, [(0, .a (files l)), (3, .a (strsA acc)), (4, .a (.v (.int .i64 ((i : Int))))), (5, .a (.v (.int .i64 ((j : Int)))))], []⟩ ∧ nn0 = acc.length - j ∧ (j ≤ acc.length) ∧ ((acc.take j).all (ltS · x.name) = true)) (acc.length - (0)) ⟨64, [(0, .a (files l)), (3, .a (strsA acc)), (4, .a (.v (.int .i64 ((i : Int))))), (5, .a (.v (.int .i64 (((0) : Int)))))], []⟩ ⟨rfl, (Slots.cons rfl (by first | exact .refl _ | exact .nilOwn _ _ | exact .nilSl _ | exact .ownSl _ _ _  | exact SV.le.of_eq (by simp)) (Slots.cons rfl (by first | exact .refl _ | exact .nilOwn _ _ | exact .nilSl _ | exact .ownSl _ _ _  | exact SV.le.of_eq (by simp)) (Slots.cons rfl (by first | exact .refl _ | exact .nilOwn _ _ | exact .nilSl _ | exact .ownSl _ _ _  | exact SV.le.of_eq (by simp)) (Slots.cons rfl (by first | exact .refl _ | exact .nilOwn _ _ | exact .nilSl _ | exact .ownSl _ _ _  | exact SV.le.of_eq (by simp)) Slots.nil)))), (by first | exact List.Sublist.refl _ | exact .cons_cons _ (.cons _ (.refl _)) | exact List.nil_sublist _ | exact .cons _ (.refl _) | exact .cons _ (.cons _ (.refl _)) | exact .cons _ (.cons _ (.cons _ (.refl _))) | exact .cons _ (.cons _ (.cons _ (.cons _ (.refl _)))) | exact .cons_cons _ (List.nil_sublist _))⟩ ⟨0, rfl, rfl, Nat.zero_le _, rfl⟩ ?_
      rintro nn0 _ ⟨j, rfl, rfl, hj, ha⟩
      refine awp_seq ?_
      refine awp_seq ?_
      rcases Bool.eq_false_or_eq_true (decide ((j : Int) < (acc.map (fun s : ByteArray => [AV.v (.string s)])).length)) with hg17 | hg17
      ·
        have hlty : j < acc.length := by have := of_decide_eq_true hg17; simpa using this
        obtain ⟨y, hy⟩ := get_lt hlty
        refine awp_drawS [13, 14, 15, 16, 17, 18, 19, 20, 21, 22, 23, 24, 25, 26] [_, _, _, _, _, _, _, _, _, _, _, _, _, _] [] [] TF.mixed rfl rfl rfl ⟨⟨⟨⟨⟨⟨⟨⟨⟨⟨⟨⟨⟨⟨trivial
          , ⟨_, rfl, fun sl hd hr ho => by
              refine r_move (hr 5 _ rfl rfl rfl) rfl ?_
              exact awl_nil ⟨rfl, post_put⟩⟩⟩
          , ⟨_, rfl, fun sl hd hr ho => by
              refine r_move (hr 3 _ rfl rfl rfl) rfl ?_
              exact awl_nil ⟨rfl, post_put⟩⟩⟩
          , ⟨_, rfl, fun sl hd hr ho => by
              first | (refine r_lenS (hd 1 _ rfl rfl rfl) rfl TF.sl57 rfl ?_) | (refine r_lenNil (hd 1 _ rfl rfl rfl) TF.sl57 rfl ?_) | (refine r_lenV (hd 1 _ rfl rfl rfl) TF.sl57 rfl ?_)
              exact awl_nil ⟨rfl, post_put⟩⟩⟩
          , ⟨_, rfl, fun sl hd hr ho => by
              refine r_cmp (hd 0 _ rfl rfl rfl) (hd 2 _ rfl rfl rfl) rfl rfl ?_
              exact awl_nil ⟨rfl, post_put⟩⟩⟩
          , ⟨_, rfl, fun sl hd hr ho => by
              refine r_move (hd 3 _ rfl rfl rfl) rfl ?_
              exact awl_nil ⟨rfl, post_put⟩⟩⟩
          , ⟨_, rfl, fun sl hd hr ho => by
              refine g_run rfl (hd 4 _ rfl rfl rfl) hg17 ?_
              refine r_move (hr 3 _ rfl rfl rfl) rfl ?_
              exact awl_nil ⟨rfl, post_put⟩⟩⟩
          , ⟨_, rfl, fun sl hd hr ho => by
              refine g_run rfl (hd 4 _ rfl rfl rfl) hg17 ?_
              refine r_move (hr 5 _ rfl rfl rfl) rfl ?_
              exact awl_nil ⟨rfl, post_put⟩⟩⟩
          , ⟨_, rfl, fun sl hd hr ho => by
              refine g_run rfl (hd 4 _ rfl rfl rfl) hg17 ?_
              refine r_index (hd 5 _ rfl rfl rfl) rfl (hd 6 _ rfl rfl rfl) TF.sl57 TF.sz9 (by omega) (get_map hy) rfl ?_
              exact awl_nil ⟨rfl, post_put⟩⟩⟩
          , ⟨_, rfl, fun sl hd hr ho => by
              refine g_run rfl (hd 4 _ rfl rfl rfl) hg17 ?_
              refine r_load1 (hd 7 _ rfl rfl rfl) TF.agg9 rfl ?_
              exact awl_nil ⟨rfl, post_put⟩⟩⟩
          , ⟨_, rfl, fun sl hd hr ho => by
              refine g_run rfl (hd 4 _ rfl rfl rfl) hg17 ?_
              refine r_move (hr 0 _ rfl rfl rfl) rfl ?_
              exact awl_nil ⟨rfl, post_put⟩⟩⟩
          , ⟨_, rfl, fun sl hd hr ho => by
              refine g_run rfl (hd 4 _ rfl rfl rfl) hg17 ?_
              refine r_move (hr 4 _ rfl rfl rfl) rfl ?_
              exact awl_nil ⟨rfl, post_put⟩⟩⟩
          , ⟨_, rfl, fun sl hd hr ho => by
              refine g_run rfl (hd 4 _ rfl rfl rfl) hg17 ?_
              refine r_index (hd 9 _ rfl rfl rfl) rfl (hd 10 _ rfl rfl rfl) TF.sl22 TF.sz54 (by omega) (get_map hx) rfl ?_
              exact awl_nil ⟨rfl, post_put⟩⟩⟩
          , ⟨_, rfl, fun sl hd hr ho => by
              refine g_run rfl (hd 4 _ rfl rfl rfl) hg17 ?_
              first | (refine r_fieldcp (hd 11 _ rfl rfl rfl) TF.f54_0 TF.sz9 rfl ?_) | (refine r_fieldb (hd 11 _ rfl rfl rfl) TF.f54_0 TF.sz9 rfl ?_)
              exact awl_nil ⟨rfl, post_put⟩⟩⟩
          , ⟨_, rfl, fun sl hd hr ho => by
              refine g_run rfl (hd 4 _ rfl rfl rfl) hg17 ?_
              refine r_load1 (hd 12 _ rfl rfl rfl) TF.agg9 rfl ?_
              exact awl_nil ⟨rfl, post_put⟩⟩⟩
          (by rfl) ?_
        refine g_run rfl rfl hg17 ?_
        refine r_str2 rfl rfl rfl rfl ?_
        refine r_pickT rfl hg17 rfl rfl ?_
        refine awl_nil ?_
        refine x_then ?_
        refine awp_cond rfl (fun hc1 => ?_) (fun hc1 => ?_)
        ·
          refine awp_skip ?_
          refine x_then ?_
          refine awp_block ?_
          refine awp_region ?_
          refine r_move rfl rfl ?_
          refine r_ari _ rfl rfl rfl (wrap_id (by first | omega | (simp; omega))) rfl ?_
          refine r_assign rfl rfl ?_
          refine awl_nil ?_
          refine x_block ?_
          refine x_then ?_
          refine ⟨acc.length - (j + 1), ⟨64, [(0, .a (files l)), (3, .a (strsA acc)), (4, .a (.v (.int .i64 ((i : Int))))), (5, .a (.v (.int .i64 (((j + 1) : Int)))))], []⟩, ⟨rfl, (Slots.cons rfl (by first | exact .refl _ | exact .nilOwn _ _ | exact .nilSl _ | exact .ownSl _ _ _  | exact SV.le.of_eq (by simp)) (Slots.cons rfl (by first | exact .refl _ | exact .nilOwn _ _ | exact .nilSl _ | exact .ownSl _ _ _  | exact SV.le.of_eq (by simp)) (Slots.cons rfl (by first | exact .refl _ | exact .nilOwn _ _ | exact .nilSl _ | exact .ownSl _ _ _  | exact SV.le.of_eq (by simp)) (Slots.cons rfl (by first | exact .refl _ | exact .nilOwn _ _ | exact .nilSl _ | exact .ownSl _ _ _  | exact SV.le.of_eq (by simp)) Slots.nil)))), (by first | exact List.Sublist.refl _ | exact .cons_cons _ (.cons _ (.refl _)) | exact List.nil_sublist _ | exact .cons _ (.refl _) | exact .cons _ (.cons _ (.refl _)) | exact .cons _ (.cons _ (.cons _ (.refl _))) | exact .cons _ (.cons _ (.cons _ (.cons _ (.refl _)))) | exact .cons_cons _ (List.nil_sublist _))⟩, (by omega), ⟨j + 1, rfl, rfl, (by have := (List.getElem?_eq_some_iff.1 hy).1; omega), (all_takeB hy ha hc1)⟩⟩
        ·
          refine awp_exit ?_
          refine x_thenE ?_
          refine x_thenE ?_
          refine x_blockE ?_
          refine x_then ?_
          refine ⟨⟨64, [(0, .a (files l)), (3, .a (strsA acc)), (4, .a (.v (.int .i64 ((i : Int))))), (5, .a (.v (.int .i64 (((j) : Int)))))], []⟩, ⟨rfl, (Slots.cons rfl (by first | exact .refl _ | exact .nilOwn _ _ | exact .nilSl _ | exact .ownSl _ _ _  | exact SV.le.of_eq (by simp)) (Slots.cons rfl (by first | exact .refl _ | exact .nilOwn _ _ | exact .nilSl _ | exact .ownSl _ _ _  | exact SV.le.of_eq (by simp)) (Slots.cons rfl (by first | exact .refl _ | exact .nilOwn _ _ | exact .nilSl _ | exact .ownSl _ _ _  | exact SV.le.of_eq (by simp)) (Slots.cons rfl (by first | exact .refl _ | exact .nilOwn _ _ | exact .nilSl _ | exact .ownSl _ _ _  | exact SV.le.of_eq (by simp)) Slots.nil)))), (by first | exact List.Sublist.refl _ | exact .cons_cons _ (.cons _ (.refl _)) | exact List.nil_sublist _ | exact .cons _ (.refl _) | exact .cons _ (.cons _ (.refl _)) | exact .cons _ (.cons _ (.cons _ (.refl _))) | exact .cons _ (.cons _ (.cons _ (.cons _ (.refl _)))) | exact .cons_cons _ (List.nil_sublist _))⟩, ⟨j, rfl, hj, ha, (fun z hz => by first | (rw [hy] at hz; cases hz; exact hc1) | (have := (List.getElem?_eq_some_iff.1 hz).1; omega))⟩⟩
      ·
        have hgej : acc.length ≤ j := by have := of_decide_eq_false hg17; simp at this; omega
        refine awp_drawS [13, 14, 15, 16, 17, 18, 19, 20, 21, 22, 23, 24, 25, 26] [_, _, _, _, _, _, _, _, _, _, _, _, _, _] [] [] TF.mixed rfl rfl rfl ⟨⟨⟨⟨⟨⟨⟨⟨⟨⟨⟨⟨⟨⟨trivial
          , ⟨_, rfl, fun sl hd hr ho => by
              refine r_move (hr 5 _ rfl rfl rfl) rfl ?_
              exact awl_nil ⟨rfl, post_put⟩⟩⟩
          , ⟨_, rfl, fun sl hd hr ho => by
              refine r_move (hr 3 _ rfl rfl rfl) rfl ?_
              exact awl_nil ⟨rfl, post_put⟩⟩⟩
          , ⟨_, rfl, fun sl hd hr ho => by
              first | (refine r_lenS (hd 1 _ rfl rfl rfl) rfl TF.sl57 rfl ?_) | (refine r_lenNil (hd 1 _ rfl rfl rfl) TF.sl57 rfl ?_) | (refine r_lenV (hd 1 _ rfl rfl rfl) TF.sl57 rfl ?_)
              exact awl_nil ⟨rfl, post_put⟩⟩⟩
          , ⟨_, rfl, fun sl hd hr ho => by
              refine r_cmp (hd 0 _ rfl rfl rfl) (hd 2 _ rfl rfl rfl) rfl rfl ?_
              exact awl_nil ⟨rfl, post_put⟩⟩⟩
          , ⟨_, rfl, fun sl hd hr ho => by
              refine r_move (hd 3 _ rfl rfl rfl) rfl ?_
              exact awl_nil ⟨rfl, post_put⟩⟩⟩
          , ⟨_, rfl, fun sl hd hr ho => by
              refine g_skip rfl (hd 4 _ rfl rfl rfl) hg17 rfl ?_
              exact awl_nil ⟨rfl, post_put⟩⟩⟩
          , ⟨_, rfl, fun sl hd hr ho => by
              refine g_skip rfl (hd 4 _ rfl rfl rfl) hg17 rfl ?_
              exact awl_nil ⟨rfl, post_put⟩⟩⟩
          , ⟨_, rfl, fun sl hd hr ho => by
              refine g_skip rfl (hd 4 _ rfl rfl rfl) hg17 rfl ?_
              exact awl_nil ⟨rfl, post_put⟩⟩⟩
          , ⟨_, rfl, fun sl hd hr ho => by
              refine g_skip rfl (hd 4 _ rfl rfl rfl) hg17 rfl ?_
              exact awl_nil ⟨rfl, post_put⟩⟩⟩
          , ⟨_, rfl, fun sl hd hr ho => by
              refine g_skip rfl (hd 4 _ rfl rfl rfl) hg17 rfl ?_
              exact awl_nil ⟨rfl, post_put⟩⟩⟩
          , ⟨_, rfl, fun sl hd hr ho => by
              refine g_skip rfl (hd 4 _ rfl rfl rfl) hg17 rfl ?_
              exact awl_nil ⟨rfl, post_put⟩⟩⟩
          , ⟨_, rfl, fun sl hd hr ho => by
              refine g_skip rfl (hd 4 _ rfl rfl rfl) hg17 rfl ?_
              exact awl_nil ⟨rfl, post_put⟩⟩⟩
          , ⟨_, rfl, fun sl hd hr ho => by
              refine g_skip rfl (hd 4 _ rfl rfl rfl) hg17 rfl ?_
              exact awl_nil ⟨rfl, post_put⟩⟩⟩
          , ⟨_, rfl, fun sl hd hr ho => by
              refine g_skip rfl (hd 4 _ rfl rfl rfl) hg17 rfl ?_
              exact awl_nil ⟨rfl, post_put⟩⟩⟩
          (by rfl) ?_
        refine g_skip rfl rfl hg17 rfl ?_
        refine r_pickF rfl hg17 rfl rfl ?_
        refine awl_nil ?_
        refine x_then ?_
        refine awp_condF rfl ?_
        refine awp_exit ?_
        refine x_thenE ?_
        refine x_thenE ?_
        refine x_blockE ?_
        refine x_then ?_
        refine ⟨⟨64, [(0, .a (files l)), (3, .a (strsA acc)), (4, .a (.v (.int .i64 ((i : Int))))), (5, .a (.v (.int .i64 (((j) : Int)))))], []⟩, ⟨rfl, (Slots.cons rfl (by first | exact .refl _ | exact .nilOwn _ _ | exact .nilSl _ | exact .ownSl _ _ _  | exact SV.le.of_eq (by simp)) (Slots.cons rfl (by first | exact .refl _ | exact .nilOwn _ _ | exact .nilSl _ | exact .ownSl _ _ _  | exact SV.le.of_eq (by simp)) (Slots.cons rfl (by first | exact .refl _ | exact .nilOwn _ _ | exact .nilSl _ | exact .ownSl _ _ _  | exact SV.le.of_eq (by simp)) (Slots.cons rfl (by first | exact .refl _ | exact .nilOwn _ _ | exact .nilSl _ | exact .ownSl _ _ _  | exact SV.le.of_eq (by simp)) Slots.nil)))), (by first | exact List.Sublist.refl _ | exact .cons_cons _ (.cons _ (.refl _)) | exact List.nil_sublist _ | exact .cons _ (.refl _) | exact .cons _ (.cons _ (.refl _)) | exact .cons _ (.cons _ (.cons _ (.refl _))) | exact .cons _ (.cons _ (.cons _ (.cons _ (.refl _)))) | exact .cons_cons _ (List.nil_sublist _))⟩, ⟨j, rfl, hj, ha, (fun z hz => by first | (rw [hy] at hz; cases hz; exact hc1) | (have := (List.getElem?_eq_some_iff.1 hz).1; omega))⟩⟩
    ·
      rintro _ ⟨j, rfl, hj, ha, hs⟩
      refine awp_seq ?_
      refine awp_seq ?_
      rcases Bool.eq_false_or_eq_true (decide ((j : Int) < (acc.map (fun s : ByteArray => [AV.v (.string s)])).length)) with hg35 | hg35
      ·
        have hlty : j < acc.length := by have := of_decide_eq_true hg35; simpa using this
        obtain ⟨y, hy⟩ := get_lt hlty
        refine awp_drawS [31, 32, 33, 34, 35, 36, 37, 38, 39, 40, 41, 42, 43, 44] [_, _, _, _, _, _, _, _, _, _, _, _, _, _] [] [] TF.mixed rfl rfl rfl ⟨⟨⟨⟨⟨⟨⟨⟨⟨⟨⟨⟨⟨⟨trivial
          , ⟨_, rfl, fun sl hd hr ho => by
              refine r_move (hr 5 _ rfl rfl rfl) rfl ?_
              exact awl_nil ⟨rfl, post_put⟩⟩⟩
          , ⟨_, rfl, fun sl hd hr ho => by
              refine r_move (hr 3 _ rfl rfl rfl) rfl ?_
              exact awl_nil ⟨rfl, post_put⟩⟩⟩
          , ⟨_, rfl, fun sl hd hr ho => by
              first | (refine r_lenS (hd 1 _ rfl rfl rfl) rfl TF.sl57 rfl ?_) | (refine r_lenNil (hd 1 _ rfl rfl rfl) TF.sl57 rfl ?_) | (refine r_lenV (hd 1 _ rfl rfl rfl) TF.sl57 rfl ?_)
              exact awl_nil ⟨rfl, post_put⟩⟩⟩
          , ⟨_, rfl, fun sl hd hr ho => by
              refine r_cmp (hd 0 _ rfl rfl rfl) (hd 2 _ rfl rfl rfl) rfl rfl ?_
              exact awl_nil ⟨rfl, post_put⟩⟩⟩
          , ⟨_, rfl, fun sl hd hr ho => by
              refine r_move (hd 3 _ rfl rfl rfl) rfl ?_
              exact awl_nil ⟨rfl, post_put⟩⟩⟩
          , ⟨_, rfl, fun sl hd hr ho => by
              refine g_run rfl (hd 4 _ rfl rfl rfl) hg35 ?_
              refine r_move (hr 3 _ rfl rfl rfl) rfl ?_
              exact awl_nil ⟨rfl, post_put⟩⟩⟩
          , ⟨_, rfl, fun sl hd hr ho => by
              refine g_run rfl (hd 4 _ rfl rfl rfl) hg35 ?_
              refine r_move (hr 5 _ rfl rfl rfl) rfl ?_
              exact awl_nil ⟨rfl, post_put⟩⟩⟩
          , ⟨_, rfl, fun sl hd hr ho => by
              refine g_run rfl (hd 4 _ rfl rfl rfl) hg35 ?_
              refine r_index (hd 5 _ rfl rfl rfl) rfl (hd 6 _ rfl rfl rfl) TF.sl57 TF.sz9 (by omega) (get_map hy) rfl ?_
              exact awl_nil ⟨rfl, post_put⟩⟩⟩
          , ⟨_, rfl, fun sl hd hr ho => by
              refine g_run rfl (hd 4 _ rfl rfl rfl) hg35 ?_
              refine r_load1 (hd 7 _ rfl rfl rfl) TF.agg9 rfl ?_
              exact awl_nil ⟨rfl, post_put⟩⟩⟩
          , ⟨_, rfl, fun sl hd hr ho => by
              refine g_run rfl (hd 4 _ rfl rfl rfl) hg35 ?_
              refine r_move (hr 0 _ rfl rfl rfl) rfl ?_
              exact awl_nil ⟨rfl, post_put⟩⟩⟩
          , ⟨_, rfl, fun sl hd hr ho => by
              refine g_run rfl (hd 4 _ rfl rfl rfl) hg35 ?_
              refine r_move (hr 4 _ rfl rfl rfl) rfl ?_
              exact awl_nil ⟨rfl, post_put⟩⟩⟩
          , ⟨_, rfl, fun sl hd hr ho => by
              refine g_run rfl (hd 4 _ rfl rfl rfl) hg35 ?_
              refine r_index (hd 9 _ rfl rfl rfl) rfl (hd 10 _ rfl rfl rfl) TF.sl22 TF.sz54 (by omega) (get_map hx) rfl ?_
              exact awl_nil ⟨rfl, post_put⟩⟩⟩
          , ⟨_, rfl, fun sl hd hr ho => by
              refine g_run rfl (hd 4 _ rfl rfl rfl) hg35 ?_
              first | (refine r_fieldcp (hd 11 _ rfl rfl rfl) TF.f54_0 TF.sz9 rfl ?_) | (refine r_fieldb (hd 11 _ rfl rfl rfl) TF.f54_0 TF.sz9 rfl ?_)
              exact awl_nil ⟨rfl, post_put⟩⟩⟩
          , ⟨_, rfl, fun sl hd hr ho => by
              refine g_run rfl (hd 4 _ rfl rfl rfl) hg35 ?_
              refine r_load1 (hd 12 _ rfl rfl rfl) TF.agg9 rfl ?_
              exact awl_nil ⟨rfl, post_put⟩⟩⟩
          (by rfl) ?_
        refine g_run rfl rfl hg35 ?_
        refine r_str2 rfl rfl rfl rfl ?_
        refine r_pickT rfl hg35 rfl rfl ?_
        refine awl_nil ?_
        refine x_then ?_
        refine awp_cond rfl (fun hc2 => ?_) (fun hc2 => ?_)
        ·
          have hins : insS acc x.name = acc := by rw [insS_at ha hj hs, hy]; simp only [show y = x.name from by simpa using hc2, if_true]
          refine awp_exit ?_
          refine x_thenE ?_
          refine x_blockE ?_
          refine x_then ?_
          refine awp_region ?_
          refine r_move rfl rfl ?_
          refine r_ari _ rfl rfl rfl (wrap_id (by first | omega | (simp; omega))) rfl ?_
          refine r_assign rfl rfl ?_
          refine awl_nil ?_
          refine x_then ?_
          refine ⟨l.length - (i + 1), ⟨64, [(0, .a (files l)), (3, .a (strsA (insS acc x.name))), (4, .a (.v (.int .i64 (((i + 1) : Int)))))], []⟩, ⟨rfl, (Slots.cons rfl (by first | exact .refl _ | exact .nilOwn _ _ | exact .nilSl _ | exact .ownSl _ _ _  | exact SV.le.ownEq (by first | rfl | (rw [hins]; done) | (rw [hins]; rfl) | (rw [hins]; simp [chunks, List.map_take, List.map_drop]; rfl)) | exact SV.le.of_eq (by first | rfl | (rw [hins]; done) | (rw [hins]; rfl) | (rw [hins]; simp [chunks, List.map_take, List.map_drop]; rfl))) (Slots.cons rfl (by first | exact .refl _ | exact .nilOwn _ _ | exact .nilSl _ | exact .ownSl _ _ _  | exact SV.le.ownEq (by first | rfl | (rw [hins]; done) | (rw [hins]; rfl) | (rw [hins]; simp [chunks, List.map_take, List.map_drop]; rfl)) | exact SV.le.of_eq (by first | rfl | (rw [hins]; done) | (rw [hins]; rfl) | (rw [hins]; simp [chunks, List.map_take, List.map_drop]; rfl))) (Slots.cons rfl (by first | exact .refl _ | exact .nilOwn _ _ | exact .nilSl _ | exact .ownSl _ _ _  | exact SV.le.ownEq (by first | rfl | (rw [hins]; done) | (rw [hins]; rfl) | (rw [hins]; simp [chunks, List.map_take, List.map_drop]; rfl)) | exact SV.le.of_eq (by first | rfl | (rw [hins]; done) | (rw [hins]; rfl) | (rw [hins]; simp [chunks, List.map_take, List.map_drop]; rfl))) Slots.nil))), (by first | exact List.Sublist.refl _ | exact .cons_cons _ (.cons _ (.refl _)) | exact List.nil_sublist _ | exact .cons _ (.refl _) | exact .cons _ (.cons _ (.refl _)) | exact .cons _ (.cons _ (.cons _ (.refl _))) | exact .cons _ (.cons _ (.cons _ (.cons _ (.refl _)))) | exact .cons_cons _ (List.nil_sublist _))⟩, (by omega), ⟨i + 1, insS acc x.name, rfl, rfl, (by omega), (names_step hx hacc), (by have := insS_len (n := x.name) (l := acc); omega)⟩⟩
        ·
          have hins : insS acc x.name = acc.take j ++ x.name :: acc.drop j := by rw [insS_at ha hj hs, hy]; simp only [show ¬ y = x.name from by simpa using hc2, if_false]
          refine awp_skip ?_
          refine x_then ?_
          refine awp_drawS [47, 48, 49, 50, 51, 52, 53, 54, 55, 56, 57, 58, 59, 60, 61] [_, _, _, _, _, _, _, _, _, _, _, _, _, _, _] [[], [], [], [], [47], [], [], [], [], [], [], [47, 51]] [(0, 47), (4, 47), (10, 57), (11, 47)] TF.mixed rfl rfl rfl ⟨⟨⟨⟨⟨⟨⟨⟨⟨⟨⟨⟨⟨⟨⟨trivial
            , ⟨_, rfl, fun sl hd hr ho => by
                refine r_lit 47 (parts := []) rfl TF.sl57 TF.sz9 TF.zraw9 rfl rfl parts_nil rfl rfl rfl rfl ?_
                exact awl_nil ⟨rfl, (post_dem (ho 47 (List.mem_of_elem_eq_true rfl)))⟩⟩⟩
            , ⟨_, rfl, fun sl hd hr ho => by
                refine r_move (hr 3 _ rfl rfl rfl) rfl ?_
                exact awl_nil ⟨rfl, post_put⟩⟩⟩
            , ⟨_, rfl, fun sl hd hr ho => by
                refine r_move (hr 5 _ rfl rfl rfl) rfl ?_
                exact awl_nil ⟨rfl, post_put⟩⟩⟩
            , ⟨_, rfl, fun sl hd hr ho => by
                refine r_sliceH (hd 1 _ rfl rfl rfl) rfl (hd 2 _ rfl rfl rfl) TF.sl57 TF.sz9 (by omega) (by simp; omega) rfl ?_
                exact awl_nil ⟨rfl, post_put⟩⟩⟩
            , ⟨_, rfl, fun sl hd hr ho => by
                refine r_append 47 (hd 0 _ rfl rfl rfl) (by first | exact .own _ | exact .nil) (hd 3 _ rfl rfl rfl) (by first | exact .sl _ | exact .own _ _ | exact .nil) TF.sl57 TF.sz9 (by decide) TF.by9 TF.zlen9 (by simp [chunks] <;> omega) (by simp [chunks] <;> omega) rfl ?_
                exact awl_nil ⟨rfl, (post_dem (ho 47 (List.mem_of_elem_eq_true rfl)))⟩⟩⟩
            , ⟨_, rfl, fun sl hd hr ho => by
                refine r_move (hr 0 _ rfl rfl rfl) rfl ?_
                exact awl_nil ⟨rfl, post_put⟩⟩⟩
            , ⟨_, rfl, fun sl hd hr ho => by
                refine r_move (hr 4 _ rfl rfl rfl) rfl ?_
                exact awl_nil ⟨rfl, post_put⟩⟩⟩
            , ⟨_, rfl, fun sl hd hr ho => by
                refine r_index (hd 5 _ rfl rfl rfl) rfl (hd 6 _ rfl rfl rfl) TF.sl22 TF.sz54 (by omega) (get_map hx) rfl ?_
                exact awl_nil ⟨rfl, post_put⟩⟩⟩
            , ⟨_, rfl, fun sl hd hr ho => by
                first | (refine r_fieldcp (hd 7 _ rfl rfl rfl) TF.f54_0 TF.sz9 rfl ?_) | (refine r_fieldb (hd 7 _ rfl rfl rfl) TF.f54_0 TF.sz9 rfl ?_)
                exact awl_nil ⟨rfl, post_put⟩⟩⟩
            , ⟨_, rfl, fun sl hd hr ho => by
                refine r_load1 (hd 8 _ rfl rfl rfl) TF.agg9 rfl ?_
                exact awl_nil ⟨rfl, post_put⟩⟩⟩
            , ⟨_, rfl, fun sl hd hr ho => by
                refine r_lit 57 (parts := [(0, .tmp 56)]) rfl TF.sl57 TF.sz9 TF.zraw9 rfl rfl (parts_cons (hd 9 _ rfl rfl rfl) parts_nil) rfl rfl rfl rfl ?_
                exact awl_nil ⟨rfl, (post_dem (ho 57 (List.mem_of_elem_eq_true rfl)))⟩⟩⟩
            , ⟨_, rfl, fun sl hd hr ho => by
                refine r_append 47 (hd 4 _ rfl rfl rfl) (by first | exact .own _ | exact .nil) (hd 10 _ rfl rfl rfl) (by first | exact .sl _ | exact .own _ _ | exact .nil) TF.sl57 TF.sz9 (by decide) TF.by9 TF.zlen9 (by simp [chunks] <;> omega) (by simp [chunks] <;> omega) rfl ?_
                exact awl_nil ⟨rfl, (post_dem (ho 47 (List.mem_of_elem_eq_true rfl)))⟩⟩⟩
            , ⟨_, rfl, fun sl hd hr ho => by
                refine r_move (hr 3 _ rfl rfl rfl) rfl ?_
                exact awl_nil ⟨rfl, post_put⟩⟩⟩
            , ⟨_, rfl, fun sl hd hr ho => by
                refine r_move (hr 5 _ rfl rfl rfl) rfl ?_
                exact awl_nil ⟨rfl, post_put⟩⟩⟩
            , ⟨_, rfl, fun sl hd hr ho => by
                refine r_sliceL (hd 12 _ rfl rfl rfl) rfl (hd 13 _ rfl rfl rfl) TF.sl57 TF.sz9 (by omega) (by simp; omega) rfl ?_
                exact awl_nil ⟨rfl, post_put⟩⟩⟩
            (by rfl) ?_
          refine r_append 47 rfl (by first | exact .own _ | exact .nil) rfl (by first | exact .sl _ | exact .own _ _ | exact .nil) TF.sl57 TF.sz9 (by decide) TF.by9 TF.zlen9 (by simp [chunks] <;> omega) (by simp [chunks] <;> omega) rfl ?_
          refine r_assign rfl rfl ?_
          refine awl_nil ?_
          refine x_block ?_
          refine x_then ?_
          refine awp_region ?_
          refine r_move rfl rfl ?_
          refine r_ari _ rfl rfl rfl (wrap_id (by first | omega | (simp; omega))) rfl ?_
          refine r_assign rfl rfl ?_
          refine awl_nil ?_
          refine x_then ?_
          refine ⟨l.length - (i + 1), ⟨64, [(0, .a (files l)), (3, .a (strsA (insS acc x.name))), (4, .a (.v (.int .i64 (((i + 1) : Int)))))], []⟩, ⟨rfl, (Slots.cons rfl (by first | exact .refl _ | exact .nilOwn _ _ | exact .nilSl _ | exact .ownSl _ _ _  | exact SV.le.ownEq (by first | rfl | (rw [hins]; done) | (rw [hins]; rfl) | (rw [hins]; simp [chunks, List.map_take, List.map_drop]; rfl)) | exact SV.le.of_eq (by first | rfl | (rw [hins]; done) | (rw [hins]; rfl) | (rw [hins]; simp [chunks, List.map_take, List.map_drop]; rfl))) (Slots.cons rfl (by first | exact .refl _ | exact .nilOwn _ _ | exact .nilSl _ | exact .ownSl _ _ _  | exact SV.le.ownEq (by first | rfl | (rw [hins]; done) | (rw [hins]; rfl) | (rw [hins]; simp [chunks, List.map_take, List.map_drop]; rfl)) | exact SV.le.of_eq (by first | rfl | (rw [hins]; done) | (rw [hins]; rfl) | (rw [hins]; simp [chunks, List.map_take, List.map_drop]; rfl))) (Slots.cons rfl (by first | exact .refl _ | exact .nilOwn _ _ | exact .nilSl _ | exact .ownSl _ _ _  | exact SV.le.ownEq (by first | rfl | (rw [hins]; done) | (rw [hins]; rfl) | (rw [hins]; simp [chunks, List.map_take, List.map_drop]; rfl)) | exact SV.le.of_eq (by first | rfl | (rw [hins]; done) | (rw [hins]; rfl) | (rw [hins]; simp [chunks, List.map_take, List.map_drop]; rfl))) Slots.nil))), (by first | exact List.Sublist.refl _ | exact .cons_cons _ (.cons _ (.refl _)) | exact List.nil_sublist _ | exact .cons _ (.refl _) | exact .cons _ (.cons _ (.refl _)) | exact .cons _ (.cons _ (.cons _ (.refl _))) | exact .cons _ (.cons _ (.cons _ (.cons _ (.refl _)))) | exact .cons_cons _ (List.nil_sublist _))⟩, (by omega), ⟨i + 1, insS acc x.name, rfl, rfl, (by omega), (names_step hx hacc), (by have := insS_len (n := x.name) (l := acc); omega)⟩⟩
      ·
        have hgej : acc.length ≤ j := by have := of_decide_eq_false hg35; simp at this; omega
        have hins : insS acc x.name = acc.take j ++ x.name :: acc.drop j := by rw [insS_at ha hj hs, List.getElem?_eq_none (by omega), List.take_of_length_le (by omega), List.drop_eq_nil_of_le (by omega)]
        refine awp_drawS [31, 32, 33, 34, 35, 36, 37, 38, 39, 40, 41, 42, 43, 44] [_, _, _, _, _, _, _, _, _, _, _, _, _, _] [] [] TF.mixed rfl rfl rfl ⟨⟨⟨⟨⟨⟨⟨⟨⟨⟨⟨⟨⟨⟨trivial
          , ⟨_, rfl, fun sl hd hr ho => by
              refine r_move (hr 5 _ rfl rfl rfl) rfl ?_
              exact awl_nil ⟨rfl, post_put⟩⟩⟩
          , ⟨_, rfl, fun sl hd hr ho => by
              refine r_move (hr 3 _ rfl rfl rfl) rfl ?_
              exact awl_nil ⟨rfl, post_put⟩⟩⟩
          , ⟨_, rfl, fun sl hd hr ho => by
              first | (refine r_lenS (hd 1 _ rfl rfl rfl) rfl TF.sl57 rfl ?_) | (refine r_lenNil (hd 1 _ rfl rfl rfl) TF.sl57 rfl ?_) | (refine r_lenV (hd 1 _ rfl rfl rfl) TF.sl57 rfl ?_)
              exact awl_nil ⟨rfl, post_put⟩⟩⟩
          , ⟨_, rfl, fun sl hd hr ho => by
              refine r_cmp (hd 0 _ rfl rfl rfl) (hd 2 _ rfl rfl rfl) rfl rfl ?_
              exact awl_nil ⟨rfl, post_put⟩⟩⟩
          , ⟨_, rfl, fun sl hd hr ho => by
              refine r_move (hd 3 _ rfl rfl rfl) rfl ?_
              exact awl_nil ⟨rfl, post_put⟩⟩⟩
          , ⟨_, rfl, fun sl hd hr ho => by
              refine g_skip rfl (hd 4 _ rfl rfl rfl) hg35 rfl ?_
              exact awl_nil ⟨rfl, post_put⟩⟩⟩
          , ⟨_, rfl, fun sl hd hr ho => by
              refine g_skip rfl (hd 4 _ rfl rfl rfl) hg35 rfl ?_
              exact awl_nil ⟨rfl, post_put⟩⟩⟩
          , ⟨_, rfl, fun sl hd hr ho => by
              refine g_skip rfl (hd 4 _ rfl rfl rfl) hg35 rfl ?_
              exact awl_nil ⟨rfl, post_put⟩⟩⟩
          , ⟨_, rfl, fun sl hd hr ho => by
              refine g_skip rfl (hd 4 _ rfl rfl rfl) hg35 rfl ?_
              exact awl_nil ⟨rfl, post_put⟩⟩⟩
          , ⟨_, rfl, fun sl hd hr ho => by
              refine g_skip rfl (hd 4 _ rfl rfl rfl) hg35 rfl ?_
              exact awl_nil ⟨rfl, post_put⟩⟩⟩
          , ⟨_, rfl, fun sl hd hr ho => by
              refine g_skip rfl (hd 4 _ rfl rfl rfl) hg35 rfl ?_
              exact awl_nil ⟨rfl, post_put⟩⟩⟩
          , ⟨_, rfl, fun sl hd hr ho => by
              refine g_skip rfl (hd 4 _ rfl rfl rfl) hg35 rfl ?_
              exact awl_nil ⟨rfl, post_put⟩⟩⟩
          , ⟨_, rfl, fun sl hd hr ho => by
              refine g_skip rfl (hd 4 _ rfl rfl rfl) hg35 rfl ?_
              exact awl_nil ⟨rfl, post_put⟩⟩⟩
          , ⟨_, rfl, fun sl hd hr ho => by
              refine g_skip rfl (hd 4 _ rfl rfl rfl) hg35 rfl ?_
              exact awl_nil ⟨rfl, post_put⟩⟩⟩
          (by rfl) ?_
        refine g_skip rfl rfl hg35 rfl ?_
        refine r_pickF rfl hg35 rfl rfl ?_
        refine awl_nil ?_
        refine x_then ?_
        refine awp_condF rfl ?_
        refine awp_skip ?_
        refine x_then ?_
        refine awp_drawS [47, 48, 49, 50, 51, 52, 53, 54, 55, 56, 57, 58, 59, 60, 61] [_, _, _, _, _, _, _, _, _, _, _, _, _, _, _] [[], [], [], [], [47], [], [], [], [], [], [], [47, 51]] [(0, 47), (4, 47), (10, 57), (11, 47)] TF.mixed rfl rfl rfl ⟨⟨⟨⟨⟨⟨⟨⟨⟨⟨⟨⟨⟨⟨⟨trivial
          , ⟨_, rfl, fun sl hd hr ho => by
              refine r_lit 47 (parts := []) rfl TF.sl57 TF.sz9 TF.zraw9 rfl rfl parts_nil rfl rfl rfl rfl ?_
              exact awl_nil ⟨rfl, (post_dem (ho 47 (List.mem_of_elem_eq_true rfl)))⟩⟩⟩
          , ⟨_, rfl, fun sl hd hr ho => by
              refine r_move (hr 3 _ rfl rfl rfl) rfl ?_
              exact awl_nil ⟨rfl, post_put⟩⟩⟩
          , ⟨_, rfl, fun sl hd hr ho => by
              refine r_move (hr 5 _ rfl rfl rfl) rfl ?_
              exact awl_nil ⟨rfl, post_put⟩⟩⟩
          , ⟨_, rfl, fun sl hd hr ho => by
              refine r_sliceH (hd 1 _ rfl rfl rfl) rfl (hd 2 _ rfl rfl rfl) TF.sl57 TF.sz9 (by omega) (by simp; omega) rfl ?_
              exact awl_nil ⟨rfl, post_put⟩⟩⟩
          , ⟨_, rfl, fun sl hd hr ho => by
              refine r_append 47 (hd 0 _ rfl rfl rfl) (by first | exact .own _ | exact .nil) (hd 3 _ rfl rfl rfl) (by first | exact .sl _ | exact .own _ _ | exact .nil) TF.sl57 TF.sz9 (by decide) TF.by9 TF.zlen9 (by simp [chunks] <;> omega) (by simp [chunks] <;> omega) rfl ?_
              exact awl_nil ⟨rfl, (post_dem (ho 47 (List.mem_of_elem_eq_true rfl)))⟩⟩⟩
          , ⟨_, rfl, fun sl hd hr ho => by
              refine r_move (hr 0 _ rfl rfl rfl) rfl ?_
              exact awl_nil ⟨rfl, post_put⟩⟩⟩
          , ⟨_, rfl, fun sl hd hr ho => by
              refine r_move (hr 4 _ rfl rfl rfl) rfl ?_
              exact awl_nil ⟨rfl, post_put⟩⟩⟩
          , ⟨_, rfl, fun sl hd hr ho => by
              refine r_index (hd 5 _ rfl rfl rfl) rfl (hd 6 _ rfl rfl rfl) TF.sl22 TF.sz54 (by omega) (get_map hx) rfl ?_
              exact awl_nil ⟨rfl, post_put⟩⟩⟩
          , ⟨_, rfl, fun sl hd hr ho => by
              first | (refine r_fieldcp (hd 7 _ rfl rfl rfl) TF.f54_0 TF.sz9 rfl ?_) | (refine r_fieldb (hd 7 _ rfl rfl rfl) TF.f54_0 TF.sz9 rfl ?_)
              exact awl_nil ⟨rfl, post_put⟩⟩⟩
          , ⟨_, rfl, fun sl hd hr ho => by
              refine r_load1 (hd 8 _ rfl rfl rfl) TF.agg9 rfl ?_
              exact awl_nil ⟨rfl, post_put⟩⟩⟩
          , ⟨_, rfl, fun sl hd hr ho => by
              refine r_lit 57 (parts := [(0, .tmp 56)]) rfl TF.sl57 TF.sz9 TF.zraw9 rfl rfl (parts_cons (hd 9 _ rfl rfl rfl) parts_nil) rfl rfl rfl rfl ?_
              exact awl_nil ⟨rfl, (post_dem (ho 57 (List.mem_of_elem_eq_true rfl)))⟩⟩⟩
          , ⟨_, rfl, fun sl hd hr ho => by
              refine r_append 47 (hd 4 _ rfl rfl rfl) (by first | exact .own _ | exact .nil) (hd 10 _ rfl rfl rfl) (by first | exact .sl _ | exact .own _ _ | exact .nil) TF.sl57 TF.sz9 (by decide) TF.by9 TF.zlen9 (by simp [chunks] <;> omega) (by simp [chunks] <;> omega) rfl ?_
              exact awl_nil ⟨rfl, (post_dem (ho 47 (List.mem_of_elem_eq_true rfl)))⟩⟩⟩
          , ⟨_, rfl, fun sl hd hr ho => by
              refine r_move (hr 3 _ rfl rfl rfl) rfl ?_
              exact awl_nil ⟨rfl, post_put⟩⟩⟩
          , ⟨_, rfl, fun sl hd hr ho => by
              refine r_move (hr 5 _ rfl rfl rfl) rfl ?_
              exact awl_nil ⟨rfl, post_put⟩⟩⟩
          , ⟨_, rfl, fun sl hd hr ho => by
              refine r_sliceL (hd 12 _ rfl rfl rfl) rfl (hd 13 _ rfl rfl rfl) TF.sl57 TF.sz9 (by omega) (by simp; omega) rfl ?_
              exact awl_nil ⟨rfl, post_put⟩⟩⟩
          (by rfl) ?_
        refine r_append 47 rfl (by first | exact .own _ | exact .nil) rfl (by first | exact .sl _ | exact .own _ _ | exact .nil) TF.sl57 TF.sz9 (by decide) TF.by9 TF.zlen9 (by simp [chunks] <;> omega) (by simp [chunks] <;> omega) rfl ?_
        refine r_assign rfl rfl ?_
        refine awl_nil ?_
        refine x_block ?_
        refine x_then ?_
        refine awp_region ?_
        refine r_move rfl rfl ?_
        refine r_ari _ rfl rfl rfl (wrap_id (by first | omega | (simp; omega))) rfl ?_
        refine r_assign rfl rfl ?_
        refine awl_nil ?_
        refine x_then ?_
        refine ⟨l.length - (i + 1), ⟨64, [(0, .a (files l)), (3, .a (strsA (insS acc x.name))), (4, .a (.v (.int .i64 (((i + 1) : Int)))))], []⟩, ⟨rfl, (Slots.cons rfl (by first | exact .refl _ | exact .nilOwn _ _ | exact .nilSl _ | exact .ownSl _ _ _  | exact SV.le.ownEq (by first | rfl | (rw [hins]; done) | (rw [hins]; rfl) | (rw [hins]; simp [chunks, List.map_take, List.map_drop]; rfl)) | exact SV.le.of_eq (by first | rfl | (rw [hins]; done) | (rw [hins]; rfl) | (rw [hins]; simp [chunks, List.map_take, List.map_drop]; rfl))) (Slots.cons rfl (by first | exact .refl _ | exact .nilOwn _ _ | exact .nilSl _ | exact .ownSl _ _ _  | exact SV.le.ownEq (by first | rfl | (rw [hins]; done) | (rw [hins]; rfl) | (rw [hins]; simp [chunks, List.map_take, List.map_drop]; rfl)) | exact SV.le.of_eq (by first | rfl | (rw [hins]; done) | (rw [hins]; rfl) | (rw [hins]; simp [chunks, List.map_take, List.map_drop]; rfl))) (Slots.cons rfl (by first | exact .refl _ | exact .nilOwn _ _ | exact .nilSl _ | exact .ownSl _ _ _  | exact SV.le.ownEq (by first | rfl | (rw [hins]; done) | (rw [hins]; rfl) | (rw [hins]; simp [chunks, List.map_take, List.map_drop]; rfl)) | exact SV.le.of_eq (by first | rfl | (rw [hins]; done) | (rw [hins]; rfl) | (rw [hins]; simp [chunks, List.map_take, List.map_drop]; rfl))) Slots.nil))), (by first | exact List.Sublist.refl _ | exact .cons_cons _ (.cons _ (.refl _)) | exact List.nil_sublist _ | exact .cons _ (.refl _) | exact .cons _ (.cons _ (.refl _)) | exact .cons _ (.cons _ (.cons _ (.refl _))) | exact .cons _ (.cons _ (.cons _ (.cons _ (.refl _)))) | exact .cons_cons _ (List.nil_sublist _))⟩, (by omega), ⟨i + 1, insS acc x.name, rfl, rfl, (by omega), (names_step hx hacc), (by have := insS_len (n := x.name) (l := acc); omega)⟩⟩
  ·
    have hgei : l.length ≤ i := by have := of_decide_eq_false hc0; simp at this; omega
    rw [List.take_of_length_le hgei] at hacc
    refine awp_exit ?_
    refine x_thenE ?_
    refine x_thenE ?_
    refine x_blockE ?_
    refine x_then ?_
    refine awp_seq ?_
    refine awp_region ?_
    refine r_move rfl rfl ?_
    refine r_assign rfl rfl ?_
    refine awl_nil ?_
    refine x_then ?_
    refine awp_ret ?_
    exact ⟨(.inl rfl), _, [], (.one (by first | exact .mk rfl rfl | exact .nil rfl)), ⟨rfl, by rw [hacc]; rfl⟩, (List.nil_sublist _), (by simp)⟩

theorem rclean_ok (l : List File) (hl : l.length ≤ 1000) : AC Try.prog 21 [files l] [] (fun r n => n = [] ∧ r = files (cleanS l)) := by
  refine ac_of_awp (rs := [2]) (nt := 28) Try.func21 rfl rfl rfl rfl (fun w0 C0 hq => ?_)
  refine awp_seq ?_
  refine awp_region ?_
  refine r_assign rfl rfl ?_
  refine awl_nil ?_
  refine x_then ?_
  refine awp_seq ?_
  refine awp_region ?_
  refine r_lit 6 (parts := []) rfl TF.sl22 TF.sz54 TF.zraw54 rfl rfl rfl rfl rfl rfl rfl ?_
  refine r_assign rfl rfl ?_
  refine awl_nil ?_
  refine x_then ?_
  refine awp_seq ?_
  refine awp_region ?_
  refine r_move rfl rfl ?_
  refine r_call0 hq rfl rfl (.cons (.ev rfl rfl) .nil) (rnames_ok l hl) rfl TF.en38 rfl (fun r hr => ?_)
  obtain rfl := hr
  obtain ⟨ns, hns⟩ : ∃ ns, ns = namesF l := ⟨_, rfl⟩
  rw [← hns]
  have hnl : ns.length ≤ 1000 := by rw [hns]; have := names_len l; omega
  refine r_assign rfl rfl ?_
  refine awl_nil ?_
  refine x_then ?_
  refine awp_seq ?_
  refine awp_seq ?_
  refine awp_region ?_
  refine r_assign rfl rfl ?_
  refine awl_nil ?_
  refine x_then ?_
  refine awp_block ?_
  refine awp_loop (fun nn0 S => ∃ k : Nat, S = ⟨28, [(0, .a (files l)), (3, .own 6 2 (((ns.take k).map (fun s : ByteArray => (⟨s, (lookF l s).getD []⟩ : File))).map File.cs)), (4, .a (strsA ns)), (5, .a (.v (.int .i64 ((k : Int)))))], []⟩ ∧ nn0 = ns.length - k ∧ (k ≤ ns.length)) (ns.length - (0)) ⟨28, [(0, .a (files l)), (3, .own 6 2 (((ns.take (0)).map (fun s : ByteArray => (⟨s, (lookF l s).getD []⟩ : File))).map File.cs)), (4, .a (strsA ns)), (5, .a (.v (.int .i64 (((0) : Int)))))], []⟩ ⟨rfl, (Slots.cons rfl (by first | exact .refl _ | exact .nilOwn _ _ | exact .nilSl _ | exact .ownSl _ _ _  | exact SV.le.of_eq (by simp)) (Slots.cons rfl (by first | exact .refl _ | exact .nilOwn _ _ | exact .nilSl _ | exact .ownSl _ _ _  | exact SV.le.of_eq (by simp)) (Slots.cons rfl (by first | exact .refl _ | exact .nilOwn _ _ | exact .nilSl _ | exact .ownSl _ _ _  | exact SV.le.of_eq (by simp)) (Slots.cons rfl (by first | exact .refl _ | exact .nilOwn _ _ | exact .nilSl _ | exact .ownSl _ _ _  | exact SV.le.of_eq (by simp)) Slots.nil)))), (by first | exact List.Sublist.refl _ | exact .cons_cons _ (.cons _ (.refl _)) | exact List.nil_sublist _ | exact .cons _ (.refl _) | exact .cons _ (.cons _ (.refl _)) | exact .cons _ (.cons _ (.cons _ (.refl _))) | exact .cons _ (.cons _ (.cons _ (.cons _ (.refl _)))) | exact .cons_cons _ (List.nil_sublist _))⟩ ⟨0, rfl, rfl, Nat.zero_le _⟩ ?_
  rintro nn0 _ ⟨k, rfl, rfl, hk⟩
  refine awp_seq ?_
  refine awp_seq ?_
  refine awp_region ?_
  refine r_move rfl rfl ?_
  refine r_move rfl rfl ?_
  first | (refine r_lenS rfl rfl TF.sl57 rfl ?_) | (refine r_lenNil rfl TF.sl57 rfl ?_) | (refine r_lenV rfl TF.sl57 rfl ?_)
  refine r_cmp rfl rfl rfl rfl ?_
  refine awl_nil ?_
  refine x_then ?_
  refine awp_cond rfl (fun hc0 => ?_) (fun hc0 => ?_)
  ·
    have hltx : k < ns.length := by have := of_decide_eq_true hc0; simpa using this
    obtain ⟨x, hx⟩ := get_lt hltx
    obtain ⟨i, y, hfi, hyi, hye⟩ := find_look (show x ∈ namesF l from hns ▸ List.mem_of_getElem? hx)
    refine awp_skip ?_
    refine x_then ?_
    refine awp_seq ?_
    refine awp_block ?_
    refine awp_region ?_
    refine r_move rfl rfl ?_
    refine r_move rfl rfl ?_
    refine r_move rfl rfl ?_
    refine r_move rfl rfl ?_
    refine r_move rfl rfl ?_
    refine r_index rfl rfl rfl TF.sl57 TF.sz9 (by omega) (get_map hx) rfl ?_
    refine r_load1 rfl TF.agg9 rfl ?_
    refine r_call0 hq rfl rfl (.cons (.ev rfl rfl) (.cons (.ev rfl rfl) .nil)) (find_ok l x (by omega)) rfl TF.en33 rfl (fun r hr => ?_)
    obtain rfl := hr
    rw [hfi]
    refine r_index rfl rfl rfl TF.sl22 TF.sz54 (by simp [optI]) (get_map hyi) rfl ?_
    refine r_loadA rfl TF.agg54 TF.sz54 rfl rfl ?_
    refine r_lit 25 (parts := [(0, .tmp 24)]) rfl TF.sl22 TF.sz54 TF.zraw54 rfl rfl rfl rfl rfl rfl rfl ?_
    refine r_append 6 rfl (by first | exact .own _ | exact .nil) rfl (by first | exact .sl _ | exact .own _ _ | exact .nil) TF.sl22 TF.sz54 (by decide) TF.by54 TF.zlen54 (by simp [chunks] <;> omega) (by simp [chunks] <;> omega) rfl ?_
    refine r_assign rfl rfl ?_
    refine awl_nil ?_
    refine x_block ?_
    refine x_then ?_
    refine awp_region ?_
    refine r_move rfl rfl ?_
    refine r_ari _ rfl rfl rfl (wrap_id (by first | omega | (simp; omega))) rfl ?_
    refine r_assign rfl rfl ?_
    refine awl_nil ?_
    refine x_then ?_
    refine ⟨ns.length - (k + 1), ⟨28, [(0, .a (files l)), (3, .own 6 2 (((ns.take (k + 1)).map (fun s : ByteArray => (⟨s, (lookF l s).getD []⟩ : File))).map File.cs)), (4, .a (strsA ns)), (5, .a (.v (.int .i64 (((k + 1) : Int)))))], []⟩, ⟨rfl, (Slots.cons rfl (by first | exact .refl _ | exact .nilOwn _ _ | exact .nilSl _ | exact .ownSl _ _ _  | exact SV.le.ownEq (by first | rfl | (rw [map_take hx, List.map_append, ← hye]; rfl)) | exact SV.le.of_eq (by first | rfl | (rw [map_take hx, List.map_append, ← hye]; rfl))) (Slots.cons rfl (by first | exact .refl _ | exact .nilOwn _ _ | exact .nilSl _ | exact .ownSl _ _ _  | exact SV.le.ownEq (by first | rfl | (rw [map_take hx, List.map_append, ← hye]; rfl)) | exact SV.le.of_eq (by first | rfl | (rw [map_take hx, List.map_append, ← hye]; rfl))) (Slots.cons rfl (by first | exact .refl _ | exact .nilOwn _ _ | exact .nilSl _ | exact .ownSl _ _ _  | exact SV.le.ownEq (by first | rfl | (rw [map_take hx, List.map_append, ← hye]; rfl)) | exact SV.le.of_eq (by first | rfl | (rw [map_take hx, List.map_append, ← hye]; rfl))) (Slots.cons rfl (by first | exact .refl _ | exact .nilOwn _ _ | exact .nilSl _ | exact .ownSl _ _ _  | exact SV.le.ownEq (by first | rfl | (rw [map_take hx, List.map_append, ← hye]; rfl)) | exact SV.le.of_eq (by first | rfl | (rw [map_take hx, List.map_append, ← hye]; rfl))) Slots.nil)))), (by first | exact List.Sublist.refl _ | exact .cons_cons _ (.cons _ (.refl _)) | exact List.nil_sublist _ | exact .cons _ (.refl _) | exact .cons _ (.cons _ (.refl _)) | exact .cons _ (.cons _ (.cons _ (.refl _))) | exact .cons _ (.cons _ (.cons _ (.cons _ (.refl _)))) | exact .cons_cons _ (List.nil_sublist _))⟩, (by omega), ⟨k + 1, rfl, rfl, (by omega)⟩⟩
  ·
    have hge : ns.length ≤ k := by have := of_decide_eq_false hc0; simp at this; omega
    have hkl : ns.take k = ns := List.take_of_length_le hge
    refine awp_exit ?_
    refine x_thenE ?_
    refine x_thenE ?_
    refine x_blockE ?_
    refine x_then ?_
    refine awp_seq ?_
    refine awp_region ?_
    refine r_move rfl rfl ?_
    refine r_assign rfl rfl ?_
    refine awl_nil ?_
    refine x_then ?_
    refine awp_ret ?_
    exact ⟨(.inl rfl), _, [], (.one (by first | exact .mk rfl rfl | exact .nil rfl)), ⟨rfl, by rw [hkl, hns]; rfl⟩, (List.nil_sublist _), (by simp)⟩

theorem applyOf_ok (a b : List File) (hla : a.length ≤ 1000) (hlb : b.length ≤ 1000) (hna : ∀ f ∈ a, f.name.size ≤ 1000000) (hnb : ∀ f ∈ b, f.name.size ≤ 1000000) (hda : ∀ f ∈ a, f.data.length ≤ 1000000) (hdb : ∀ f ∈ b, f.data.length ≤ 1000000) : AC Try.prog 16 [files a, fcsA (OfF a b)] [] (fun r n => n = [] ∧ r = .tup [files (cleanS b), .v (.int .i64 0)]) := by
  have hl := of_len a b
  refine (apply_ok a (OfF a b) hla (by omega) hna hda (of_bound hna hnb hdb)).mono fun r n h => ?_
  obtain ⟨m, h1, h2, h3, h4⟩ := apply_clean a b
  obtain ⟨rfl, ⟨m', k1, k2, rfl⟩ | ⟨e, m', k1, k2, rfl⟩⟩ := h
  · rw [h1] at k1; cases k1; exact ⟨rfl, by rw [h4]⟩
  · rw [h1] at k1; cases k1; exact absurd rfl k2

theorem aw_of : OfF [⟨⟨#[97]⟩, [120]⟩, ⟨⟨#[98]⟩, [121]⟩] [⟨⟨#[99]⟩, [120]⟩, ⟨⟨#[98]⟩, [122]⟩] = [⟨4, ⟨#[97]⟩, ⟨#[99]⟩, []⟩, ⟨3, ⟨#[98]⟩, E0, [122]⟩] := by kernel_rfl
theorem aw_clean : cleanS [⟨⟨#[99]⟩, [120]⟩, ⟨⟨#[98]⟩, [122]⟩] = [⟨⟨#[98]⟩, [122]⟩, ⟨⟨#[99]⟩, [120]⟩] := by kernel_rfl
theorem aw_right : rightF [⟨4, ⟨#[97]⟩, ⟨#[99]⟩, []⟩, ⟨3, ⟨#[98]⟩, E0, [122]⟩] = true := by kernel_rfl

set_option maxHeartbeats 1000000 in
theorem awake_ok : AC Try.prog 9 [] [] (fun r n => n = [] ∧ r = boolA true) := by
  refine ac_of_awp (rs := [0]) (nt := 106) Try.func9 rfl rfl rfl rfl (fun w0 C0 hq => ?_)
  refine awp_seq ?_
  refine awp_region ?_
  refine r_assign rfl rfl ?_
  refine awl_nil ?_
  refine x_then ?_
  refine awp_seq ?_
  refine awp_region ?_
  refine r_lit 6 (parts := [(0, .const ((Go.Value.int Go.IntKind.u8 120)))]) rfl TF.sl34 TF.sz5 TF.zraw5 rfl rfl rfl rfl rfl rfl rfl ?_
  refine r_convBB hq 6 rfl (by simp [chunks]) TF.sl34 TF.un5 rfl ?_
  refine r_build (parts := [(0, .const ((Go.Value.string { data := #[97] }))), (1, .tmp 7)]) rfl TF.pl48 TF.zero48 rfl rfl rfl ?_
  refine r_lit 9 (parts := [(0, .const ((Go.Value.int Go.IntKind.u8 121)))]) rfl TF.sl34 TF.sz5 TF.zraw5 rfl rfl rfl rfl rfl rfl rfl ?_
  refine r_convBB hq 9 rfl (by simp [chunks]) TF.sl34 TF.un5 rfl ?_
  refine r_build (parts := [(0, .const ((Go.Value.string { data := #[98] }))), (1, .tmp 10)]) rfl TF.pl48 TF.zero48 rfl rfl rfl ?_
  refine r_lit 12 (parts := [(0, .tmp 8), (1, .tmp 11)]) rfl TF.sl25 TF.sz48 TF.zraw48 rfl rfl rfl rfl rfl rfl rfl ?_
  refine r_assign rfl rfl ?_
  refine awl_nil ?_
  refine x_then ?_
  refine awp_seq ?_
  refine awp_region ?_
  refine r_lit 13 (parts := [(0, .const ((Go.Value.int Go.IntKind.u8 120)))]) rfl TF.sl34 TF.sz5 TF.zraw5 rfl rfl rfl rfl rfl rfl rfl ?_
  refine r_convBB hq 13 rfl (by simp [chunks]) TF.sl34 TF.un5 rfl ?_
  refine r_build (parts := [(0, .const ((Go.Value.string { data := #[99] }))), (1, .tmp 14)]) rfl TF.pl48 TF.zero48 rfl rfl rfl ?_
  refine r_lit 16 (parts := [(0, .const ((Go.Value.int Go.IntKind.u8 122)))]) rfl TF.sl34 TF.sz5 TF.zraw5 rfl rfl rfl rfl rfl rfl rfl ?_
  refine r_convBB hq 16 rfl (by simp [chunks]) TF.sl34 TF.un5 rfl ?_
  refine r_build (parts := [(0, .const ((Go.Value.string { data := #[98] }))), (1, .tmp 17)]) rfl TF.pl48 TF.zero48 rfl rfl rfl ?_
  refine r_lit 19 (parts := [(0, .tmp 15), (1, .tmp 18)]) rfl TF.sl25 TF.sz48 TF.zraw48 rfl rfl rfl rfl rfl rfl rfl ?_
  refine r_assign rfl rfl ?_
  refine awl_nil ?_
  refine x_then ?_
  refine awp_seq ?_
  refine awp_region ?_
  refine r_move rfl rfl ?_
  refine r_move rfl rfl ?_
  refine r_call0 hq rfl rfl (.cons (.ev rfl rfl) (.cons (.ev rfl rfl) .nil)) (of_ok [⟨⟨#[97]⟩, [120]⟩, ⟨⟨#[98]⟩, [121]⟩] [⟨⟨#[99]⟩, [120]⟩, ⟨⟨#[98]⟩, [122]⟩] (by simp) (by simp) (by decide) (by decide) (by decide) (by decide)) rfl TF.en13 rfl (fun r hr => ?_)
  obtain rfl := hr
  refine r_assign rfl rfl ?_
  refine awl_nil ?_
  refine x_then ?_
  refine awp_seq ?_
  refine awp_region ?_
  refine r_move rfl rfl ?_
  refine r_move rfl rfl ?_
  refine r_call0 hq rfl rfl (.cons (.ev rfl rfl) (.cons (.ev rfl rfl) .nil)) (applyOf_ok [⟨⟨#[97]⟩, [120]⟩, ⟨⟨#[98]⟩, [121]⟩] [⟨⟨#[99]⟩, [120]⟩, ⟨⟨#[98]⟩, [122]⟩] (by simp) (by simp) (by decide) (by decide) (by decide) (by decide)) rfl TF.en16 rfl (fun r hr => ?_)
  obtain rfl := hr
  rw [aw_clean, aw_of]
  refine r_move rfl rfl ?_
  refine r_extract rfl rfl rfl ?_
  refine r_extract rfl rfl rfl ?_
  refine r_assign rfl rfl ?_
  refine r_assign rfl rfl ?_
  refine awl_nil ?_
  refine x_then ?_
  refine awp_seq ?_
  refine awp_region ?_
  refine r_move rfl rfl ?_
  first | (refine r_lenS rfl rfl TF.sl28 rfl ?_) | (refine r_lenNil rfl TF.sl28 rfl ?_) | (refine r_lenV rfl TF.sl28 rfl ?_)
  refine r_cmp rfl rfl rfl rfl ?_
  refine r_move rfl rfl ?_
  refine g_run rfl rfl rfl ?_
  refine r_move rfl rfl ?_
  refine g_run rfl rfl rfl ?_
  refine r_index rfl rfl rfl TF.sl28 TF.sz50 (by decide) rfl rfl ?_
  refine g_run rfl rfl rfl ?_
  first | (refine r_fieldcp rfl TF.f50_0 TF.sz3 rfl ?_) | (refine r_fieldb rfl TF.f50_0 TF.sz3 rfl ?_)
  refine g_run rfl rfl rfl ?_
  refine r_load1 rfl TF.agg3 rfl ?_
  refine g_run rfl rfl rfl ?_
  refine r_cmp rfl rfl rfl rfl ?_
  refine r_pickT rfl rfl rfl rfl ?_
  refine r_move rfl rfl ?_
  refine g_run rfl rfl rfl ?_
  refine r_move rfl rfl ?_
  refine g_run rfl rfl rfl ?_
  refine r_index rfl rfl rfl TF.sl28 TF.sz50 (by decide) rfl rfl ?_
  refine g_run rfl rfl rfl ?_
  first | (refine r_fieldcp rfl TF.f50_1 TF.sz9 rfl ?_) | (refine r_fieldb rfl TF.f50_1 TF.sz9 rfl ?_)
  refine g_run rfl rfl rfl ?_
  refine r_load1 rfl TF.agg9 rfl ?_
  refine g_run rfl rfl rfl ?_
  refine r_str2 rfl rfl rfl rfl ?_
  refine r_pickT rfl rfl rfl rfl ?_
  refine r_move rfl rfl ?_
  refine g_run rfl rfl rfl ?_
  refine r_move rfl rfl ?_
  refine g_run rfl rfl rfl ?_
  refine r_index rfl rfl rfl TF.sl28 TF.sz50 (by decide) rfl rfl ?_
  refine g_run rfl rfl rfl ?_
  first | (refine r_fieldcp rfl TF.f50_2 TF.sz9 rfl ?_) | (refine r_fieldb rfl TF.f50_2 TF.sz9 rfl ?_)
  refine g_run rfl rfl rfl ?_
  refine r_load1 rfl TF.agg9 rfl ?_
  refine g_run rfl rfl rfl ?_
  refine r_str2 rfl rfl rfl rfl ?_
  refine r_pickT rfl rfl rfl rfl ?_
  refine r_move rfl rfl ?_
  refine g_run rfl rfl rfl ?_
  refine r_move rfl rfl ?_
  refine g_run rfl rfl rfl ?_
  refine r_index rfl rfl rfl TF.sl28 TF.sz50 (by decide) rfl rfl ?_
  refine g_run rfl rfl rfl ?_
  first | (refine r_fieldcp rfl TF.f50_0 TF.sz3 rfl ?_) | (refine r_fieldb rfl TF.f50_0 TF.sz3 rfl ?_)
  refine g_run rfl rfl rfl ?_
  refine r_load1 rfl TF.agg3 rfl ?_
  refine g_run rfl rfl rfl ?_
  refine r_cmp rfl rfl rfl rfl ?_
  refine r_pickT rfl rfl rfl rfl ?_
  refine r_move rfl rfl ?_
  refine g_run rfl rfl rfl ?_
  refine r_move rfl rfl ?_
  refine g_run rfl rfl rfl ?_
  refine r_index rfl rfl rfl TF.sl28 TF.sz50 (by decide) rfl rfl ?_
  refine g_run rfl rfl rfl ?_
  first | (refine r_fieldcp rfl TF.f50_1 TF.sz9 rfl ?_) | (refine r_fieldb rfl TF.f50_1 TF.sz9 rfl ?_)
  refine g_run rfl rfl rfl ?_
  refine r_load1 rfl TF.agg9 rfl ?_
  refine g_run rfl rfl rfl ?_
  refine r_str2 rfl rfl rfl rfl ?_
  refine r_pickT rfl rfl rfl rfl ?_
  refine r_move rfl rfl ?_
  refine g_run rfl rfl rfl ?_
  refine r_move rfl rfl ?_
  refine g_run rfl rfl rfl ?_
  refine r_index rfl rfl rfl TF.sl28 TF.sz50 (by decide) rfl rfl ?_
  refine g_run rfl rfl rfl ?_
  first | (refine r_fieldcp rfl TF.f50_3 TF.sz34 rfl ?_) | (refine r_fieldb rfl TF.f50_3 TF.sz34 rfl ?_)
  refine g_run rfl rfl rfl ?_
  refine r_load1 rfl TF.agg34 rfl ?_
  refine g_run rfl rfl rfl ?_
  refine r_convBS [122] rfl rfl TF.sl34 TF.un5 TF.un9 rfl ?_
  refine g_run rfl rfl rfl ?_
  refine r_str2 rfl rfl rfl rfl ?_
  refine r_pickT rfl rfl rfl rfl ?_
  refine r_move rfl rfl ?_
  refine g_run rfl rfl rfl ?_
  refine r_move rfl rfl ?_
  refine g_run rfl rfl rfl ?_
  refine r_cmp rfl rfl rfl rfl ?_
  refine r_pickT rfl rfl rfl rfl ?_
  refine r_move rfl rfl ?_
  refine g_run rfl rfl rfl ?_
  refine r_move rfl rfl ?_
  refine g_run rfl rfl rfl ?_
  first | (refine r_lenS rfl rfl TF.sl25 rfl ?_) | (refine r_lenNil rfl TF.sl25 rfl ?_) | (refine r_lenV rfl TF.sl25 rfl ?_)
  refine g_run rfl rfl rfl ?_
  refine r_cmp rfl rfl rfl rfl ?_
  refine r_pickT rfl rfl rfl rfl ?_
  refine r_move rfl rfl ?_
  refine g_run rfl rfl rfl ?_
  refine r_move rfl rfl ?_
  refine g_run rfl rfl rfl ?_
  refine r_index rfl rfl rfl TF.sl25 TF.sz48 (by decide) rfl rfl ?_
  refine g_run rfl rfl rfl ?_
  first | (refine r_fieldcp rfl TF.f48_0 TF.sz9 rfl ?_) | (refine r_fieldb rfl TF.f48_0 TF.sz9 rfl ?_)
  refine g_run rfl rfl rfl ?_
  refine r_load1 rfl TF.agg9 rfl ?_
  refine g_run rfl rfl rfl ?_
  refine r_str2 rfl rfl rfl rfl ?_
  refine r_pickT rfl rfl rfl rfl ?_
  refine r_move rfl rfl ?_
  refine g_run rfl rfl rfl ?_
  refine r_move rfl rfl ?_
  refine g_run rfl rfl rfl ?_
  refine r_index rfl rfl rfl TF.sl25 TF.sz48 (by decide) rfl rfl ?_
  refine g_run rfl rfl rfl ?_
  first | (refine r_fieldcp rfl TF.f48_0 TF.sz9 rfl ?_) | (refine r_fieldb rfl TF.f48_0 TF.sz9 rfl ?_)
  refine g_run rfl rfl rfl ?_
  refine r_load1 rfl TF.agg9 rfl ?_
  refine g_run rfl rfl rfl ?_
  refine r_str2 rfl rfl rfl rfl ?_
  refine r_pickT rfl rfl rfl rfl ?_
  refine r_move rfl rfl ?_
  refine g_run rfl rfl rfl ?_
  refine r_move rfl rfl ?_
  refine g_run rfl rfl rfl ?_
  refine r_call0 hq rfl rfl (.cons (.ev rfl rfl) .nil) (right_ok [⟨4, ⟨#[97]⟩, ⟨#[99]⟩, []⟩, ⟨3, ⟨#[98]⟩, E0, [122]⟩] (by simp)) rfl TF.en19 rfl (fun r hr => ?_)
  obtain rfl := hr
  rw [aw_right]
  refine r_pickT rfl rfl rfl rfl ?_
  refine r_move rfl rfl ?_
  first | refine r_pickT rfl (by first | rfl | assumption) rfl rfl ?_ | refine r_pickF rfl (by first | rfl | assumption) rfl rfl ?_
  refine r_move rfl rfl ?_
  first | refine r_pickT rfl (by first | rfl | assumption) rfl rfl ?_ | refine r_pickF rfl (by first | rfl | assumption) rfl rfl ?_
  refine r_assign rfl rfl ?_
  refine awl_nil ?_
  refine x_then ?_
  refine awp_ret ?_
  exact ⟨(.inl rfl), _, [], (.one (by first | exact .mk rfl rfl | exact .nil rfl)), ⟨rfl, rfl⟩, (List.nil_sublist _), (by simp)⟩

end Go.Proofs.Ytnbnegkdbjdekaa.A

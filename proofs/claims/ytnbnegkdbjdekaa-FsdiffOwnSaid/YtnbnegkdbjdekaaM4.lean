import Derived.WalkKit
import Derived.Below
import Derived.Laws.Rows
import Derived.Laws.CopyRow
import Derived.Laws.AppendOwn
import Derived.RangeFuncLeaves
import Derived.RangeFuncSeq
import Derived.RangeFuncCalls
import Derived.MapKept
import Derived.Orders
import Derived.Laws.IdiomStrings
import Derived.Laws.BytesArg
import Derived.Shelf.SlIter.Nil
import Derived.Shelf.SortM.Plain
import Derived.Shelf.SortM.SortNone
import Derived.Ground.GgzProg
import Derived.Ground.SlgmProg
import Derived.Test.YtnbnegkdbjdekaaProg
import Derived.KernelRfl
import Derived.RangeFuncBound
import Derived.Maps.RangeRun
import Derived.DeepKeys3
import Derived.Laws.StructEq
import Derived.Shelf.SlSortCmp.NoneTotal
import Derived.ChangeKeysEq
import Derived.Laws.MakeOwn
import Derived.ChangeArms
import Derived.ChangeOld
import Derived.Test.YtnbnegkdbjdekaaM3
namespace Go.Proofs.Ytnbnegkdbjdekaa.A
open Go Go.RowKit
set_option linter.unusedVariables false
set_option linter.unusedSimpArgs false
set_option maxRecDepth 100000
set_option linter.unusedSectionVars false
variable [Thr]
theorem TF.sl22 : sliceT Try.prog 22 = some 54 := by kernel_rfl
theorem TF.sz54 : szT Try.prog 54 = some 2 := by kernel_rfl
theorem TF.agg54 : aggT Try.prog 54 = some true := by kernel_rfl
theorem TF.zero54 : ZeroT Try.prog 54 [.v (.string ⟨#[]⟩), .sl 1 []] := ⟨[(.string ⟨#[]⟩), (.slice none 0 0)], by kernel_rfl, (.cons (.refl _) (.cons (.nil 1) .nil))⟩
theorem TF.f54_0 : fieldT Try.prog 54 0 = some (0, 9) := by kernel_rfl
theorem TF.f54_1 : fieldT Try.prog 54 1 = some (1, 34) := by kernel_rfl
theorem TF.zraw54 : zeroT Try.prog 54 = some [(.string ⟨#[]⟩), (.slice none 0 0)] := by kernel_rfl
theorem TF.en38 : entersT Try.prog 38 := enters_of Try.func38 (by kernel_rfl) (by kernel_rfl)
theorem TF.en33 : entersT Try.prog 33 := enters_of Try.func33 (by kernel_rfl) (by kernel_rfl)
theorem TF.by54 : bytesT Try.prog 54 = some 40 := by kernel_rfl
theorem TF.zlen54 : (zeroT Try.prog 54).map (·.length) = some 2 := by kernel_rfl
theorem TF.en13 : entersT Try.prog 13 := enters_of Try.func13 (by kernel_rfl) (by kernel_rfl)
theorem TF.en16 : entersT Try.prog 16 := enters_of Try.func16 (by kernel_rfl) (by kernel_rfl)
theorem TF.en19 : entersT Try.prog 19 := enters_of Try.func19 (by kernel_rfl) (by kernel_rfl)
theorem files_ok (l : List File) (hl : l.length ≤ 1000000) (hda : ∀ f ∈ l, f.data.length ≤ 1000000) : AC Try.prog 11 [files l] [] (fun r n => n = [] ∧ r = files l) := by
 refine ac_of_awp (rs := [2]) (nt := 24) Try.func11 rfl rfl rfl rfl (fun w0 C0 hq => ?_)
 refine awp_seq ?_
 refine awp_region ?_
 refine r_assign rfl rfl ?_
 refine awl_nil ?_
 refine x_then ?_
 refine awp_seq ?_
 refine awp_region ?_
 refine r_assign rfl rfl ?_
 refine awl_nil ?_
 refine x_then ?_
 refine awp_seq ?_
 refine awp_seq ?_
 refine awp_region ?_
 refine r_move rfl rfl ?_
 first | (refine r_lenS rfl rfl TF.sl22 rfl ?_) | (refine r_lenNil rfl TF.sl22 rfl ?_) | (refine r_lenV rfl TF.sl22 rfl ?_)
 refine r_move rfl rfl ?_
 refine awl_nil ?_
 refine x_then ?_
 refine awp_block ?_
 refine awp_loop (fun nn0 S => ∃ k : Nat, S = ⟨24, [(3, .own 3 2 ((l.take k).map File.cs)), (6, .a (files l)), (7, .a (.v (.int .i64 ((l.map File.cs).length)))), (8, .a (.v (.int .i64 ((k : Int)))))], []⟩ ∧ nn0 = l.length - k ∧ (k ≤ l.length)) (l.length - (0)) ⟨24, [(3, .own 3 2 ((l.take (0)).map File.cs)), (6, .a (files l)), (7, .a (.v (.int .i64 ((l.map File.cs).length)))), (8, .a (.v (.int .i64 (((0) : Int)))))], []⟩ ⟨rfl, (Slots.cons rfl (by first | exact .refl _ | exact .nilOwn _ _ | exact .nilSl _ | exact .ownSl _ _ _  | exact SV.le.of_eq (by simp)) (Slots.cons rfl (by first | exact .refl _ | exact .nilOwn _ _ | exact .nilSl _ | exact .ownSl _ _ _  | exact SV.le.of_eq (by simp)) (Slots.cons rfl (by first | exact .refl _ | exact .nilOwn _ _ | exact .nilSl _ | exact .ownSl _ _ _  | exact SV.le.of_eq (by simp)) (Slots.cons rfl (by first | exact .refl _ | exact .nilOwn _ _ | exact .nilSl _ | exact .ownSl _ _ _  | exact SV.le.of_eq (by simp)) Slots.nil)))), (by first | exact List.Sublist.refl _ | exact .cons_cons _ (.cons _ (.refl _)) | exact List.nil_sublist _ | exact .cons _ (.refl _) | exact .cons _ (.cons _ (.refl _)) | exact .cons _ (.cons _ (.cons _ (.refl _))) | exact .cons _ (.cons _ (.cons _ (.cons _ (.refl _)))) | exact .cons_cons _ (List.nil_sublist _))⟩ ⟨0, rfl, rfl, Nat.zero_le _⟩ ?_
 rintro nn0 _ ⟨k, rfl, rfl, hk⟩
 refine awp_seq ?_
 refine awp_region ?_
 refine r_cmp rfl rfl rfl rfl ?_
 refine awl_nil ?_
 refine x_then ?_
 refine awp_seq ?_
 refine awp_cond rfl (fun hc0 => ?_) (fun hc0 => ?_)
 ·
  have hltx : k < l.length := by have := of_decide_eq_true hc0; simpa using this
  obtain ⟨x, hx⟩ := get_lt hltx
  have hxd := hda x (List.mem_of_getElem? hx)
  refine awp_skip ?_
  refine x_then ?_
  refine awp_seq ?_
  refine awp_block ?_
  refine awp_seq ?_
  refine awp_region ?_
  refine r_index rfl rfl rfl TF.sl22 TF.sz54 (by omega) (get_map hx) rfl ?_
  refine r_loadA rfl TF.agg54 TF.sz54 rfl rfl ?_
  refine r_alloc TF.zero54 rfl (fun b5 => ?_)
  refine r_store 0 rfl rfl rfl TF.sz54 rfl rfl rfl ?_
  refine awl_nil ?_
  refine x_then ?_
  refine awp_drawS [12, 13, 14, 15, 16, 17, 18, 19, 20] [_, _, _, _, _, _, _, _, _] [[], [], [], [], [], [], [15]] [(3, 15), (6, 15), (8, 20)] TF.mixed rfl rfl rfl ⟨⟨⟨⟨⟨⟨⟨⟨⟨trivial
   , ⟨_, rfl, fun sl hd hr ho => by
     refine r_move (hr 3 _ rfl rfl rfl) rfl ?_
     exact awl_nil ⟨rfl, post_put⟩⟩⟩
   , ⟨_, rfl, fun sl hd hr ho => by
     first | (refine r_fieldb (hr 5 _ rfl rfl rfl) TF.f54_0 TF.sz9 rfl ?_) | (refine r_fieldcp (hr 5 _ rfl rfl rfl) TF.f54_0 TF.sz9 rfl ?_)
     exact awl_nil ⟨rfl, post_put⟩⟩⟩
   , ⟨_, rfl, fun sl hd hr ho => by
     first | (refine r_load1b 0 (hd 1 _ rfl rfl rfl) rfl rfl TF.agg9 rfl ?_) | (refine r_load1 (hd 1 _ rfl rfl rfl) TF.agg9 rfl ?_)
     exact awl_nil ⟨rfl, post_put⟩⟩⟩
   , ⟨_, rfl, fun sl hd hr ho => by
     refine r_lit 15 (parts := []) rfl TF.sl34 TF.sz5 TF.zraw5 rfl rfl parts_nil rfl rfl rfl rfl ?_
     exact awl_nil ⟨rfl, (post_dem (ho 15 (List.mem_of_elem_eq_true rfl)))⟩⟩⟩
   , ⟨_, rfl, fun sl hd hr ho => by
     first | (refine r_fieldb (hr 5 _ rfl rfl rfl) TF.f54_1 TF.sz34 rfl ?_) | (refine r_fieldcp (hr 5 _ rfl rfl rfl) TF.f54_1 TF.sz34 rfl ?_)
     exact awl_nil ⟨rfl, post_put⟩⟩⟩
   , ⟨_, rfl, fun sl hd hr ho => by
     first | (refine r_load1b 0 (hd 4 _ rfl rfl rfl) rfl rfl TF.agg34 rfl ?_) | (refine r_load1 (hd 4 _ rfl rfl rfl) TF.agg34 rfl ?_)
     exact awl_nil ⟨rfl, post_put⟩⟩⟩
   , ⟨_, rfl, fun sl hd hr ho => by
     refine r_append 15 (hd 3 _ rfl rfl rfl) (by first | exact .own _ | exact .nil) (hd 5 _ rfl rfl rfl) (by first | exact .sl _ | exact .own _ _ | exact .nil) TF.sl34 TF.sz5 (by decide) TF.by5 TF.zlen5 (by simp [chunks, u8s]; omega) (by simp [chunks, u8s]; omega) rfl ?_
     exact awl_nil ⟨rfl, (post_dem (ho 15 (List.mem_of_elem_eq_true rfl)))⟩⟩⟩
   , ⟨_, rfl, fun sl hd hr ho => by
     refine r_build (parts := [(0, .tmp 14), (1, .tmp 18)]) rfl TF.pl48 TF.zero48 (parts_cons (hd 2 _ rfl rfl rfl) (parts_cons (hd 6 _ rfl rfl rfl) parts_nil)) rfl rfl ?_
     exact awl_nil ⟨rfl, post_put⟩⟩⟩
   , ⟨_, rfl, fun sl hd hr ho => by
     refine r_lit 20 (parts := [(0, .tmp 19)]) rfl TF.sl25 TF.sz48 TF.zraw48 rfl rfl (parts_cons (hd 7 _ rfl rfl rfl) parts_nil) rfl rfl rfl rfl ?_
     exact awl_nil ⟨rfl, (post_dem (ho 20 (List.mem_of_elem_eq_true rfl)))⟩⟩⟩
   (by rfl) ?_
  refine r_append 3 rfl (by first | exact .own _ | exact .nil) rfl (by first | exact .sl _ | exact .own _ _ | exact .nil) TF.sl25 TF.sz48 (by decide) TF.by48 TF.zlen48 (by simp [chunks] <;> omega) (by simp [chunks] <;> omega) rfl ?_
  refine r_assign rfl rfl ?_
  refine awl_nil ?_
  refine x_block ?_
  refine x_then ?_
  refine awp_region ?_
  refine r_ari _ rfl rfl rfl (wrap_id (by first | omega | (simp; omega))) rfl ?_
  refine r_move rfl rfl ?_
  refine awl_nil ?_
  refine x_then ?_
  refine ⟨l.length - (k + 1), ⟨24, [(3, .own 3 2 ((l.take (k + 1)).map File.cs)), (6, .a (files l)), (7, .a (.v (.int .i64 ((l.map File.cs).length)))), (8, .a (.v (.int .i64 (((k + 1) : Int)))))], []⟩, ⟨rfl, (Slots.cons rfl (by first | exact .refl _ | exact .nilOwn _ _ | exact .nilSl _ | exact .ownSl _ _ _  | exact SV.le.ownEq (by first | rfl | (rw [takeS hx, List.map_append]; rfl) | (rw [takeS hx, List.map_append]; simp [chunks, File.cs, bts, SV.av])) | exact SV.le.of_eq (by first | rfl | (rw [takeS hx, List.map_append]; rfl) | (rw [takeS hx, List.map_append]; simp [chunks, File.cs, bts, SV.av]))) (Slots.cons rfl (by first | exact .refl _ | exact .nilOwn _ _ | exact .nilSl _ | exact .ownSl _ _ _  | exact SV.le.ownEq (by first | rfl | (rw [takeS hx, List.map_append]; rfl) | (rw [takeS hx, List.map_append]; simp [chunks, File.cs, bts, SV.av])) | exact SV.le.of_eq (by first | rfl | (rw [takeS hx, List.map_append]; rfl) | (rw [takeS hx, List.map_append]; simp [chunks, File.cs, bts, SV.av]))) (Slots.cons rfl (by first | exact .refl _ | exact .nilOwn _ _ | exact .nilSl _ | exact .ownSl _ _ _  | exact SV.le.ownEq (by first | rfl | (rw [takeS hx, List.map_append]; rfl) | (rw [takeS hx, List.map_append]; simp [chunks, File.cs, bts, SV.av])) | exact SV.le.of_eq (by first | rfl | (rw [takeS hx, List.map_append]; rfl) | (rw [takeS hx, List.map_append]; simp [chunks, File.cs, bts, SV.av]))) (Slots.cons rfl (by first | exact .refl _ | exact .nilOwn _ _ | exact .nilSl _ | exact .ownSl _ _ _  | exact SV.le.ownEq (by first | rfl | (rw [takeS hx, List.map_append]; rfl) | (rw [takeS hx, List.map_append]; simp [chunks, File.cs, bts, SV.av])) | exact SV.le.of_eq (by first | rfl | (rw [takeS hx, List.map_append]; rfl) | (rw [takeS hx, List.map_append]; simp [chunks, File.cs, bts, SV.av]))) Slots.nil)))), (by first | exact List.Sublist.refl _ | exact .cons_cons _ (.cons _ (.refl _)) | exact List.nil_sublist _ | exact .cons _ (.refl _) | exact .cons _ (.cons _ (.refl _)) | exact .cons _ (.cons _ (.cons _ (.refl _))) | exact .cons _ (.cons _ (.cons _ (.cons _ (.refl _)))) | exact .cons_cons _ (List.nil_sublist _))⟩, (by omega), ⟨k + 1, rfl, rfl, (by omega)⟩⟩
 ·
  have hge : l.length ≤ k := by have := of_decide_eq_false hc0; simp at this; omega
  have hkl : l.take k = l := List.take_of_length_le hge
  refine awp_exit ?_
  refine x_thenE ?_
  refine x_thenE ?_
  refine x_blockE ?_
  refine x_then ?_
  refine awp_seq ?_
  refine awp_region ?_
  refine r_move rfl rfl ?_
  refine r_assign rfl rfl ?_
  refine awl_nil ?_
  refine x_then ?_
  refine awp_ret ?_
  exact ⟨(.inl rfl), _, [], (.one (by first | exact .mk rfl rfl | exact .nil rfl)), ⟨rfl, by rw [hkl]; rfl⟩, (List.nil_sublist _), (by simp)⟩
theorem small_ok (l : List File) : AC Try.prog 10 [files l] [] (fun r n => n = [] ∧ (r = .v (.int .i64 0) ∨ (r = .v (.int .i64 1) ∧ l.length ≤ 12 ∧ ∀ f ∈ l, f.name.size ≤ 40 ∧ f.data.length ≤ 300))) := by
 refine ac_of_awp (rs := [2]) (nt := 25) Try.func10 rfl rfl rfl rfl (fun w0 C0 hq => ?_)
 refine awp_seq ?_
 refine awp_region ?_
 refine r_assign rfl rfl ?_
 refine awl_nil ?_
 refine x_then ?_
 refine awp_seq ?_
 refine awp_seq ?_
 refine awp_region ?_
 refine r_move rfl rfl ?_
 first | (refine r_lenS rfl rfl TF.sl22 rfl ?_) | (refine r_lenNil rfl TF.sl22 rfl ?_) | (refine r_lenV rfl TF.sl22 rfl ?_)
 refine r_cmp rfl rfl rfl rfl ?_
 refine awl_nil ?_
 refine x_then ?_
 refine awp_cond rfl (fun hc0 => ?_) (fun hc0 => ?_)
 ·
  refine awp_seq ?_
  refine awp_region ?_
  refine r_assign rfl rfl ?_
  refine awl_nil ?_
  refine x_then ?_
  refine awp_ret ?_
  refine x_thenR ?_
  exact ⟨(.inl rfl), _, [], (.one (by first | exact .mk rfl rfl | exact .nil rfl)), ⟨rfl, by first | exact .inl rfl | exact .inr ⟨rfl, hl12, all_end hge hq2⟩⟩, (List.nil_sublist _), (by simp)⟩
 ·
  have hl12 : l.length ≤ 12 := by have := of_decide_eq_false hc0; simp at this; omega
  have hl : l.length ≤ 1000000 := by omega
  refine awp_skip ?_
  refine x_then ?_
  refine awp_seq ?_
  refine awp_seq ?_
  refine awp_region ?_
  refine r_move rfl rfl ?_
  first | (refine r_lenS rfl rfl TF.sl22 rfl ?_) | (refine r_lenNil rfl TF.sl22 rfl ?_) | (refine r_lenV rfl TF.sl22 rfl ?_)
  refine r_move rfl rfl ?_
  refine awl_nil ?_
  refine x_then ?_
  refine awp_block ?_
  refine awp_loop (fun nn0 S => ∃ k : Nat, S = ⟨25, [(8, .a (files l)), (9, .a (.v (.int .i64 ((l.map File.cs).length)))), (10, .a (.v (.int .i64 ((k : Int)))))], []⟩ ∧ nn0 = l.length - k ∧ (k ≤ l.length) ∧ (∀ f ∈ l.take k, f.name.size ≤ 40 ∧ f.data.length ≤ 300)) (l.length - (0)) ⟨25, [(8, .a (files l)), (9, .a (.v (.int .i64 ((l.map File.cs).length)))), (10, .a (.v (.int .i64 (((0) : Int)))))], []⟩ ⟨rfl, (Slots.cons rfl (by first | exact .refl _ | exact .nilOwn _ _ | exact .nilSl _ | exact .ownSl _ _ _  | exact SV.le.of_eq (by simp)) (Slots.cons rfl (by first | exact .refl _ | exact .nilOwn _ _ | exact .nilSl _ | exact .ownSl _ _ _  | exact SV.le.of_eq (by simp)) (Slots.cons rfl (by first | exact .refl _ | exact .nilOwn _ _ | exact .nilSl _ | exact .ownSl _ _ _  | exact SV.le.of_eq (by simp)) Slots.nil))), (by first | exact List.Sublist.refl _ | exact .cons_cons _ (.cons _ (.refl _)) | exact List.nil_sublist _ | exact .cons _ (.refl _) | exact .cons _ (.cons _ (.refl _)) | exact .cons _ (.cons _ (.cons _ (.refl _))) | exact .cons _ (.cons _ (.cons _ (.cons _ (.refl _)))) | exact .cons_cons _ (List.nil_sublist _))⟩ ⟨0, rfl, rfl, Nat.zero_le _, (fun f hf => by simp at hf)⟩ ?_
  rintro nn0 _ ⟨k, rfl, rfl, hk, hq2⟩
  refine awp_seq ?_
  refine awp_region ?_
  refine r_cmp rfl rfl rfl rfl ?_
  refine awl_nil ?_
  refine x_then ?_
  refine awp_seq ?_
  refine awp_cond rfl (fun hc1 => ?_) (fun hc1 => ?_)
  ·
   have hltx : k < l.length := by have := of_decide_eq_true hc1; simpa using this
   obtain ⟨x, hx⟩ := get_lt hltx
   refine awp_skip ?_
   refine x_then ?_
   refine awp_seq ?_
   refine awp_block ?_
   refine awp_seq ?_
   refine awp_region ?_
   refine r_index rfl rfl rfl TF.sl22 TF.sz54 (by omega) (get_map hx) rfl ?_
   refine r_loadA rfl TF.agg54 TF.sz54 rfl rfl ?_
   refine r_alloc TF.zero54 rfl (fun b4 => ?_)
   refine r_store 0 rfl rfl rfl TF.sz54 rfl rfl rfl ?_
   refine awl_nil ?_
   refine x_then ?_
   refine awp_seq ?_
   refine awp_region ?_
   first | (refine r_fieldb rfl TF.f54_0 TF.sz9 rfl ?_) | (refine r_fieldcp rfl TF.f54_0 TF.sz9 rfl ?_)
   first | (refine r_load1b 0 rfl rfl rfl TF.agg9 rfl ?_) | (refine r_load1 rfl TF.agg9 rfl ?_)
   refine r_lenStr rfl TF.un9 rfl ?_
   refine r_cmp rfl rfl rfl rfl ?_
   refine r_move rfl rfl ?_
   refine g_cases (t' := 18) rfl (fun hg18 => ?_) (fun hg18 => ?_)
   ·
    refine g_skip rfl rfl hg18 rfl ?_
    refine g_skip rfl rfl hg18 rfl ?_
    refine g_skip rfl rfl hg18 rfl ?_
    refine g_skip rfl rfl hg18 rfl ?_
    refine r_pickT rfl hg18 rfl rfl ?_
    refine awl_nil ?_
    refine x_then ?_
    refine awp_condT rfl ?_
    refine awp_seq ?_
    refine awp_region ?_
    refine r_assign rfl rfl ?_
    refine awl_nil ?_
    refine x_then ?_
    refine awp_ret ?_
    refine x_blockR ?_
    refine x_thenR ?_
    refine x_thenR ?_
    refine x_blockR ?_
    refine x_thenR ?_
    exact ⟨(.inl rfl), _, [], (.one (by first | exact .mk rfl rfl | exact .nil rfl)), ⟨rfl, by first | exact .inl rfl | exact .inr ⟨rfl, hl12, all_end hge hq2⟩⟩, (List.nil_sublist _), (by simp)⟩
   ·
    have hxn : x.name.size ≤ 40 := by have := of_decide_eq_false hg18; omega
    refine g_run rfl rfl hg18 ?_
    first | (refine r_fieldb rfl TF.f54_1 TF.sz34 rfl ?_) | (refine r_fieldcp rfl TF.f54_1 TF.sz34 rfl ?_)
    refine g_run rfl rfl hg18 ?_
    first | (refine r_load1b 0 rfl rfl rfl TF.agg34 rfl ?_) | (refine r_load1 rfl TF.agg34 rfl ?_)
    refine g_run rfl rfl hg18 ?_
    first | (refine r_lenS rfl rfl TF.sl34 rfl ?_) | (refine r_lenNil rfl TF.sl34 rfl ?_) | (refine r_lenV rfl TF.sl34 rfl ?_)
    refine g_run rfl rfl hg18 ?_
    refine r_cmp rfl rfl rfl rfl ?_
    refine r_pickF rfl hg18 rfl rfl ?_
    refine awl_nil ?_
    refine x_then ?_
    refine awp_cond rfl (fun hc2 => ?_) (fun hc2 => ?_)
    ·
     refine awp_seq ?_
     refine awp_region ?_
     refine r_assign rfl rfl ?_
     refine awl_nil ?_
     refine x_then ?_
     refine awp_ret ?_
     refine x_blockR ?_
     refine x_thenR ?_
     refine x_thenR ?_
     refine x_blockR ?_
     refine x_thenR ?_
     exact ⟨(.inl rfl), _, [], (.one (by first | exact .mk rfl rfl | exact .nil rfl)), ⟨rfl, by first | exact .inl rfl | exact .inr ⟨rfl, hl12, all_end hge hq2⟩⟩, (List.nil_sublist _), (by simp)⟩
    ·
     have hxd : x.data.length ≤ 300 := by have := of_decide_eq_false hc2; rw [u8s_len] at this; omega
     refine awp_skip ?_
     refine x_block ?_
     refine x_then ?_
     refine awp_region ?_
     refine r_ari _ rfl rfl rfl (wrap_id (by first | omega | (simp; omega))) rfl ?_
     refine r_move rfl rfl ?_
     refine awl_nil ?_
     refine x_then ?_
     refine ⟨l.length - (k + 1), ⟨25, [(8, .a (files l)), (9, .a (.v (.int .i64 ((l.map File.cs).length)))), (10, .a (.v (.int .i64 (((k + 1) : Int)))))], []⟩, ⟨rfl, (Slots.cons rfl (by first | exact .refl _ | exact .nilOwn _ _ | exact .nilSl _ | exact .ownSl _ _ _  | exact SV.le.of_eq (by simp)) (Slots.cons rfl (by first | exact .refl _ | exact .nilOwn _ _ | exact .nilSl _ | exact .ownSl _ _ _  | exact SV.le.of_eq (by simp)) (Slots.cons rfl (by first | exact .refl _ | exact .nilOwn _ _ | exact .nilSl _ | exact .ownSl _ _ _  | exact SV.le.of_eq (by simp)) Slots.nil))), (by first | exact List.Sublist.refl _ | exact .cons_cons _ (.cons _ (.refl _)) | exact List.nil_sublist _ | exact .cons _ (.refl _) | exact .cons _ (.cons _ (.refl _)) | exact .cons _ (.cons _ (.cons _ (.refl _))) | exact .cons _ (.cons _ (.cons _ (.cons _ (.refl _)))) | exact .cons_cons _ (List.nil_sublist _))⟩, (by omega), ⟨k + 1, rfl, rfl, (by omega), (all_takeS hx hq2 ⟨hxn, hxd⟩)⟩⟩
  ·
   have hge : l.length ≤ k := by have := of_decide_eq_false hc1; simp at this; omega
   refine awp_exit ?_
   refine x_thenE ?_
   refine x_thenE ?_
   refine x_blockE ?_
   refine x_then ?_
   refine awp_seq ?_
   refine awp_region ?_
   refine r_assign rfl rfl ?_
   refine awl_nil ?_
   refine x_then ?_
   refine awp_ret ?_
   exact ⟨(.inl rfl), _, [], (.one (by first | exact .mk rfl rfl | exact .nil rfl)), ⟨rfl, by first | exact .inl rfl | exact .inr ⟨rfl, hl12, all_end hge hq2⟩⟩, (List.nil_sublist _), (by simp)⟩
theorem alike_ok (l : List File) (hl : l.length ≤ 1000000) : AC Try.prog 15 [files l, files l] [] (fun r n => n = [] ∧ r = .v (.int .i64 1)) := by
 refine ac_of_awp (rs := [4]) (nt := 43) Try.func15 rfl rfl rfl rfl (fun w0 C0 hq => ?_)
 refine awp_seq ?_
 refine awp_region ?_
 refine r_assign rfl rfl ?_
 refine awl_nil ?_
 refine x_then ?_
 refine awp_seq ?_
 refine awp_seq ?_
 refine awp_region ?_
 refine r_move rfl rfl ?_
 first | (refine r_lenS rfl rfl TF.sl25 rfl ?_) | (refine r_lenNil rfl TF.sl25 rfl ?_) | (refine r_lenV rfl TF.sl25 rfl ?_)
 refine r_move rfl rfl ?_
 first | (refine r_lenS rfl rfl TF.sl22 rfl ?_) | (refine r_lenNil rfl TF.sl22 rfl ?_) | (refine r_lenV rfl TF.sl22 rfl ?_)
 refine r_cmp rfl rfl rfl rfl ?_
 refine awl_nil ?_
 refine x_then ?_
 refine awp_cond rfl (fun hc0 => ?_) (fun hc0 => ?_)
 ·
  exfalso; simp at hc0
 ·
  refine awp_skip ?_
  refine x_then ?_
  refine awp_seq ?_
  refine awp_seq ?_
  refine awp_region ?_
  refine r_move rfl rfl ?_
  first | (refine r_lenS rfl rfl TF.sl25 rfl ?_) | (refine r_lenNil rfl TF.sl25 rfl ?_) | (refine r_lenV rfl TF.sl25 rfl ?_)
  refine r_move rfl rfl ?_
  refine awl_nil ?_
  refine x_then ?_
  refine awp_block ?_
  refine awp_loop (fun nn0 S => ∃ k : Nat, S = ⟨43, [(0, .a (files l)), (1, .a (files l)), (12, .a (.v (.int .i64 ((l.map File.cs).length)))), (13, .a (.v (.int .i64 ((k : Int)))))], []⟩ ∧ nn0 = l.length - k ∧ (k ≤ l.length)) (l.length - (0)) ⟨43, [(0, .a (files l)), (1, .a (files l)), (12, .a (.v (.int .i64 ((l.map File.cs).length)))), (13, .a (.v (.int .i64 (((0) : Int)))))], []⟩ ⟨rfl, (Slots.cons rfl (by first | exact .refl _ | exact .nilOwn _ _ | exact .nilSl _ | exact .ownSl _ _ _  | exact SV.le.of_eq (by simp)) (Slots.cons rfl (by first | exact .refl _ | exact .nilOwn _ _ | exact .nilSl _ | exact .ownSl _ _ _  | exact SV.le.of_eq (by simp)) (Slots.cons rfl (by first | exact .refl _ | exact .nilOwn _ _ | exact .nilSl _ | exact .ownSl _ _ _  | exact SV.le.of_eq (by simp)) (Slots.cons rfl (by first | exact .refl _ | exact .nilOwn _ _ | exact .nilSl _ | exact .ownSl _ _ _  | exact SV.le.of_eq (by simp)) Slots.nil)))), (by first | exact List.Sublist.refl _ | exact .cons_cons _ (.cons _ (.refl _)) | exact List.nil_sublist _ | exact .cons _ (.refl _) | exact .cons _ (.cons _ (.refl _)) | exact .cons _ (.cons _ (.cons _ (.refl _))) | exact .cons _ (.cons _ (.cons _ (.cons _ (.refl _)))) | exact .cons_cons _ (List.nil_sublist _))⟩ ⟨0, rfl, rfl, Nat.zero_le _⟩ ?_
  rintro nn0 _ ⟨k, rfl, rfl, hk⟩
  refine awp_seq ?_
  refine awp_region ?_
  refine r_cmp rfl rfl rfl rfl ?_
  refine awl_nil ?_
  refine x_then ?_
  refine awp_seq ?_
  refine awp_cond rfl (fun hc1 => ?_) (fun hc1 => ?_)
  ·
   have hltx : k < l.length := by have := of_decide_eq_true hc1; simpa using this
   obtain ⟨x, hx⟩ := get_lt hltx
   refine awp_skip ?_
   refine x_then ?_
   refine awp_seq ?_
   refine awp_block ?_
   refine awp_seq ?_
   refine awp_region ?_
   refine r_move rfl rfl ?_
   refine r_assign rfl rfl ?_
   refine awl_nil ?_
   refine x_then ?_
   refine awp_seq ?_
   refine awp_drawS [16, 17, 18, 19, 20, 21, 22, 23, 24, 25, 26, 27, 28, 29, 30, 31, 32, 33, 34, 35, 36, 37, 38, 39] [_, _, _, _, _, _, _, _, _, _, _, _, _, _, _, _, _, _, _, _, _, _, _, _] [] [] TF.mixed rfl rfl rfl ⟨⟨⟨⟨⟨⟨⟨⟨⟨⟨⟨⟨⟨⟨⟨⟨⟨⟨⟨⟨⟨⟨⟨⟨trivial
    , ⟨_, rfl, fun sl hd hr ho => by
      refine r_move (hr 0 _ rfl rfl rfl) rfl ?_
      exact awl_nil ⟨rfl, post_put⟩⟩⟩
    , ⟨_, rfl, fun sl hd hr ho => by
      refine r_move (hr 5 _ rfl rfl rfl) rfl ?_
      exact awl_nil ⟨rfl, post_put⟩⟩⟩
    , ⟨_, rfl, fun sl hd hr ho => by
      refine r_index (hd 0 _ rfl rfl rfl) rfl (hd 1 _ rfl rfl rfl) TF.sl25 TF.sz48 (by omega) (get_map hx) rfl ?_
      exact awl_nil ⟨rfl, post_put⟩⟩⟩
    , ⟨_, rfl, fun sl hd hr ho => by
      first | (refine r_fieldcp (hd 2 _ rfl rfl rfl) TF.f48_0 TF.sz9 rfl ?_) | (refine r_fieldb (hd 2 _ rfl rfl rfl) TF.f48_0 TF.sz9 rfl ?_)
      exact awl_nil ⟨rfl, post_put⟩⟩⟩
    , ⟨_, rfl, fun sl hd hr ho => by
      refine r_load1 (hd 3 _ rfl rfl rfl) TF.agg9 rfl ?_
      exact awl_nil ⟨rfl, post_put⟩⟩⟩
    , ⟨_, rfl, fun sl hd hr ho => by
      refine r_move (hr 1 _ rfl rfl rfl) rfl ?_
      exact awl_nil ⟨rfl, post_put⟩⟩⟩
    , ⟨_, rfl, fun sl hd hr ho => by
      refine r_move (hr 5 _ rfl rfl rfl) rfl ?_
      exact awl_nil ⟨rfl, post_put⟩⟩⟩
    , ⟨_, rfl, fun sl hd hr ho => by
      refine r_index (hd 5 _ rfl rfl rfl) rfl (hd 6 _ rfl rfl rfl) TF.sl22 TF.sz54 (by omega) (get_map hx) rfl ?_
      exact awl_nil ⟨rfl, post_put⟩⟩⟩
    , ⟨_, rfl, fun sl hd hr ho => by
      first | (refine r_fieldcp (hd 7 _ rfl rfl rfl) TF.f54_0 TF.sz9 rfl ?_) | (refine r_fieldb (hd 7 _ rfl rfl rfl) TF.f54_0 TF.sz9 rfl ?_)
      exact awl_nil ⟨rfl, post_put⟩⟩⟩
    , ⟨_, rfl, fun sl hd hr ho => by
      refine r_load1 (hd 8 _ rfl rfl rfl) TF.agg9 rfl ?_
      exact awl_nil ⟨rfl, post_put⟩⟩⟩
    , ⟨_, rfl, fun sl hd hr ho => by
      refine r_str2 (hd 4 _ rfl rfl rfl) (hd 9 _ rfl rfl rfl) rfl rfl ?_
      exact awl_nil ⟨rfl, post_put⟩⟩⟩
    , ⟨_, rfl, fun sl hd hr ho => by
      refine r_move (hd 10 _ rfl rfl rfl) rfl ?_
      exact awl_nil ⟨rfl, post_put⟩⟩⟩
    , ⟨_, rfl, fun sl hd hr ho => by
      refine g_run rfl (hd 11 _ rfl rfl rfl) (by simp) ?_
      refine r_move (hr 0 _ rfl rfl rfl) rfl ?_
      exact awl_nil ⟨rfl, post_put⟩⟩⟩
    , ⟨_, rfl, fun sl hd hr ho => by
      refine g_run rfl (hd 11 _ rfl rfl rfl) (by simp) ?_
      refine r_move (hr 5 _ rfl rfl rfl) rfl ?_
      exact awl_nil ⟨rfl, post_put⟩⟩⟩
    , ⟨_, rfl, fun sl hd hr ho => by
      refine g_run rfl (hd 11 _ rfl rfl rfl) (by simp) ?_
      refine r_index (hd 12 _ rfl rfl rfl) rfl (hd 13 _ rfl rfl rfl) TF.sl25 TF.sz48 (by omega) (get_map hx) rfl ?_
      exact awl_nil ⟨rfl, post_put⟩⟩⟩
    , ⟨_, rfl, fun sl hd hr ho => by
      refine g_run rfl (hd 11 _ rfl rfl rfl) (by simp) ?_
      first | (refine r_fieldcp (hd 14 _ rfl rfl rfl) TF.f48_1 TF.sz34 rfl ?_) | (refine r_fieldb (hd 14 _ rfl rfl rfl) TF.f48_1 TF.sz34 rfl ?_)
      exact awl_nil ⟨rfl, post_put⟩⟩⟩
    , ⟨_, rfl, fun sl hd hr ho => by
      refine g_run rfl (hd 11 _ rfl rfl rfl) (by simp) ?_
      refine r_load1 (hd 15 _ rfl rfl rfl) TF.agg34 rfl ?_
      exact awl_nil ⟨rfl, post_put⟩⟩⟩
    , ⟨_, rfl, fun sl hd hr ho => by
      refine g_run rfl (hd 11 _ rfl rfl rfl) (by simp) ?_
      refine r_convBS x.data (hd 16 _ rfl rfl rfl) rfl TF.sl34 TF.un5 TF.un9 rfl ?_
      exact awl_nil ⟨rfl, post_put⟩⟩⟩
    , ⟨_, rfl, fun sl hd hr ho => by
      refine g_run rfl (hd 11 _ rfl rfl rfl) (by simp) ?_
      refine r_move (hr 1 _ rfl rfl rfl) rfl ?_
      exact awl_nil ⟨rfl, post_put⟩⟩⟩
    , ⟨_, rfl, fun sl hd hr ho => by
      refine g_run rfl (hd 11 _ rfl rfl rfl) (by simp) ?_
      refine r_move (hr 5 _ rfl rfl rfl) rfl ?_
      exact awl_nil ⟨rfl, post_put⟩⟩⟩
    , ⟨_, rfl, fun sl hd hr ho => by
      refine g_run rfl (hd 11 _ rfl rfl rfl) (by simp) ?_
      refine r_index (hd 18 _ rfl rfl rfl) rfl (hd 19 _ rfl rfl rfl) TF.sl22 TF.sz54 (by omega) (get_map hx) rfl ?_
      exact awl_nil ⟨rfl, post_put⟩⟩⟩
    , ⟨_, rfl, fun sl hd hr ho => by
      refine g_run rfl (hd 11 _ rfl rfl rfl) (by simp) ?_
      first | (refine r_fieldcp (hd 20 _ rfl rfl rfl) TF.f54_1 TF.sz34 rfl ?_) | (refine r_fieldb (hd 20 _ rfl rfl rfl) TF.f54_1 TF.sz34 rfl ?_)
      exact awl_nil ⟨rfl, post_put⟩⟩⟩
    , ⟨_, rfl, fun sl hd hr ho => by
      refine g_run rfl (hd 11 _ rfl rfl rfl) (by simp) ?_
      refine r_load1 (hd 21 _ rfl rfl rfl) TF.agg34 rfl ?_
      exact awl_nil ⟨rfl, post_put⟩⟩⟩
    , ⟨_, rfl, fun sl hd hr ho => by
      refine g_run rfl (hd 11 _ rfl rfl rfl) (by simp) ?_
      refine r_convBS x.data (hd 22 _ rfl rfl rfl) rfl TF.sl34 TF.un5 TF.un9 rfl ?_
      exact awl_nil ⟨rfl, post_put⟩⟩⟩
    (by rfl) ?_
   refine g_run rfl rfl (by simp) ?_
   refine r_str2 rfl rfl rfl rfl ?_
   refine r_pickF rfl (by simp) rfl rfl ?_
   refine awl_nil ?_
   refine x_then ?_
   refine awp_cond rfl (fun hc2 => ?_) (fun hc2 => ?_)
   ·
    exfalso; simp at hc2
   ·
    refine awp_skip ?_
    refine x_block ?_
    refine x_then ?_
    refine awp_region ?_
    refine r_ari _ rfl rfl rfl (wrap_id (by first | omega | (simp; omega))) rfl ?_
    refine r_move rfl rfl ?_
    refine awl_nil ?_
    refine x_then ?_
    refine ⟨l.length - (k + 1), ⟨43, [(0, .a (files l)), (1, .a (files l)), (12, .a (.v (.int .i64 ((l.map File.cs).length)))), (13, .a (.v (.int .i64 (((k + 1) : Int)))))], []⟩, ⟨rfl, (Slots.cons rfl (by first | exact .refl _ | exact .nilOwn _ _ | exact .nilSl _ | exact .ownSl _ _ _  | exact SV.le.of_eq (by simp)) (Slots.cons rfl (by first | exact .refl _ | exact .nilOwn _ _ | exact .nilSl _ | exact .ownSl _ _ _  | exact SV.le.of_eq (by simp)) (Slots.cons rfl (by first | exact .refl _ | exact .nilOwn _ _ | exact .nilSl _ | exact .ownSl _ _ _  | exact SV.le.of_eq (by simp)) (Slots.cons rfl (by first | exact .refl _ | exact .nilOwn _ _ | exact .nilSl _ | exact .ownSl _ _ _  | exact SV.le.of_eq (by simp)) Slots.nil)))), (by first | exact List.Sublist.refl _ | exact .cons_cons _ (.cons _ (.refl _)) | exact List.nil_sublist _ | exact .cons _ (.refl _) | exact .cons _ (.cons _ (.refl _)) | exact .cons _ (.cons _ (.cons _ (.refl _))) | exact .cons _ (.cons _ (.cons _ (.cons _ (.refl _)))) | exact .cons_cons _ (List.nil_sublist _))⟩, (by omega), ⟨k + 1, rfl, rfl, (by omega)⟩⟩
  ·
   refine awp_exit ?_
   refine x_thenE ?_
   refine x_thenE ?_
   refine x_blockE ?_
   refine x_then ?_
   refine awp_seq ?_
   refine awp_region ?_
   refine r_assign rfl rfl ?_
   refine awl_nil ?_
   refine x_then ?_
   refine awp_ret ?_
   exact ⟨(.inl rfl), _, [], (.one (by first | exact .mk rfl rfl | exact .nil rfl)), ⟨rfl, rfl⟩, (List.nil_sublist _), (by simp)⟩
theorem find_ok (l : List File) (name : ByteArray) (hl : l.length ≤ 1000000) : AC Try.prog 33 [files l, strA name] [] (fun r n => n = [] ∧ r = .v (.int .i64 (optI (l.findIdx? (fun f => decide (f.name = name)))))) := by
 refine ac_of_awp (rs := [4]) (nt := 20) Try.func33 rfl rfl rfl rfl (fun w0 C0 hq => ?_)
 refine awp_seq ?_
 refine awp_region ?_
 refine r_assign rfl rfl ?_
 refine awl_nil ?_
 refine x_then ?_
 refine awp_seq ?_
 refine awp_seq ?_
 refine awp_region ?_
 refine r_assign rfl rfl ?_
 refine awl_nil ?_
 refine x_then ?_
 refine awp_block ?_
 refine awp_loop (fun nn0 S => ∃ k : Nat, S = ⟨20, [(0, .a (files l)), (1, .a (strA name)), (5, .a (.v (.int .i64 ((k : Int)))))], []⟩ ∧ nn0 = l.length - k ∧ (k ≤ l.length) ∧ ((l.take k).findIdx? (fun x => decide (x.name = name)) = none)) (l.length - (0)) ⟨20, [(0, .a (files l)), (1, .a (strA name)), (5, .a (.v (.int .i64 (((0) : Int)))))], []⟩ ⟨rfl, (Slots.cons rfl (by first | exact .refl _ | exact .nilOwn _ _ | exact .nilSl _ | exact .ownSl _ _ _  | exact SV.le.of_eq (by simp)) (Slots.cons rfl (by first | exact .refl _ | exact .nilOwn _ _ | exact .nilSl _ | exact .ownSl _ _ _  | exact SV.le.of_eq (by simp)) (Slots.cons rfl (by first | exact .refl _ | exact .nilOwn _ _ | exact .nilSl _ | exact .ownSl _ _ _  | exact SV.le.of_eq (by simp)) Slots.nil))), (by first | exact List.Sublist.refl _ | exact .cons_cons _ (.cons _ (.refl _)) | exact List.nil_sublist _ | exact .cons _ (.refl _) | exact .cons _ (.cons _ (.refl _)) | exact .cons _ (.cons _ (.cons _ (.refl _))) | exact .cons _ (.cons _ (.cons _ (.cons _ (.refl _)))) | exact .cons_cons _ (List.nil_sublist _))⟩ ⟨0, rfl, rfl, Nat.zero_le _, rfl⟩ ?_
 rintro nn0 _ ⟨k, rfl, rfl, hk, hno⟩
 refine awp_seq ?_
 refine awp_seq ?_
 refine awp_region ?_
 refine r_move rfl rfl ?_
 refine r_move rfl rfl ?_
 first | (refine r_lenS rfl rfl TF.sl22 rfl ?_) | (refine r_lenNil rfl TF.sl22 rfl ?_) | (refine r_lenV rfl TF.sl22 rfl ?_)
 refine r_cmp rfl rfl rfl rfl ?_
 refine awl_nil ?_
 refine x_then ?_
 refine awp_cond rfl (fun hc0 => ?_) (fun hc0 => ?_)
 ·
  have hltx : k < l.length := by have := of_decide_eq_true hc0; simpa using this
  obtain ⟨x, hx⟩ := get_lt hltx
  refine awp_skip ?_
  refine x_then ?_
  refine awp_seq ?_
  refine awp_block ?_
  refine awp_seq ?_
  refine awp_region ?_
  refine r_move rfl rfl ?_
  refine r_move rfl rfl ?_
  refine r_index rfl rfl rfl TF.sl22 TF.sz54 (by omega) (get_map hx) rfl ?_
  first | (refine r_fieldcp rfl TF.f54_0 TF.sz9 rfl ?_) | (refine r_fieldb rfl TF.f54_0 TF.sz9 rfl ?_)
  refine r_load1 rfl TF.agg9 rfl ?_
  refine r_move rfl rfl ?_
  refine r_str2 rfl rfl rfl rfl ?_
  refine awl_nil ?_
  refine x_then ?_
  refine awp_cond rfl (fun hc1 => ?_) (fun hc1 => ?_)
  ·
   refine awp_seq ?_
   refine awp_region ?_
   refine r_move rfl rfl ?_
   refine r_assign rfl rfl ?_
   refine awl_nil ?_
   refine x_then ?_
   refine awp_ret ?_
   refine x_blockR ?_
   refine x_thenR ?_
   refine x_thenR ?_
   refine x_blockR ?_
   refine x_thenR ?_
   exact ⟨(.inl rfl), _, [], (.one (by first | exact .mk rfl rfl | exact .nil rfl)), ⟨rfl, by rw [fidx_hit hx hc1 hno]; rfl⟩, (List.nil_sublist _), (by simp)⟩
  ·
   refine awp_skip ?_
   refine x_block ?_
   refine x_then ?_
   refine awp_region ?_
   refine r_move rfl rfl ?_
   refine r_ari _ rfl rfl rfl (wrap_id (by first | omega | (simp; omega))) rfl ?_
   refine r_assign rfl rfl ?_
   refine awl_nil ?_
   refine x_then ?_
   refine ⟨l.length - (k + 1), ⟨20, [(0, .a (files l)), (1, .a (strA name)), (5, .a (.v (.int .i64 (((k + 1) : Int)))))], []⟩, ⟨rfl, (Slots.cons rfl (by first | exact .refl _ | exact .nilOwn _ _ | exact .nilSl _ | exact .ownSl _ _ _  | exact SV.le.of_eq (by simp)) (Slots.cons rfl (by first | exact .refl _ | exact .nilOwn _ _ | exact .nilSl _ | exact .ownSl _ _ _  | exact SV.le.of_eq (by simp)) (Slots.cons rfl (by first | exact .refl _ | exact .nilOwn _ _ | exact .nilSl _ | exact .ownSl _ _ _  | exact SV.le.of_eq (by simp)) Slots.nil))), (by first | exact List.Sublist.refl _ | exact .cons_cons _ (.cons _ (.refl _)) | exact List.nil_sublist _ | exact .cons _ (.refl _) | exact .cons _ (.cons _ (.refl _)) | exact .cons _ (.cons _ (.cons _ (.refl _))) | exact .cons _ (.cons _ (.cons _ (.cons _ (.refl _)))) | exact .cons_cons _ (List.nil_sublist _))⟩, (by omega), ⟨k + 1, rfl, rfl, (by omega), (fidx_step hx hc1 hno)⟩⟩
 ·
  have hge : l.length ≤ k := by have := of_decide_eq_false hc0; simp at this; omega
  refine awp_exit ?_
  refine x_thenE ?_
  refine x_thenE ?_
  refine x_blockE ?_
  refine x_then ?_
  refine awp_seq ?_
  refine awp_region ?_
  refine r_assign rfl rfl ?_
  refine awl_nil ?_
  refine x_then ?_
  refine awp_ret ?_
  exact ⟨(.inl rfl), _, [], (.one (by first | exact .mk rfl rfl | exact .nil rfl)), ⟨rfl, by rw [fidx_end hge hno]; rfl⟩, (List.nil_sublist _), (by simp)⟩
theorem names_step {l : List File} {k : Nat} {x : File} {acc : List ByteArray} (h : l[k]? = some x) (ha : acc = namesF (l.take k)) : insS acc x.name = namesF (l.take (k + 1)) := by
  rw [ha]; unfold namesF; rw [fold_take h]
set_option maxHeartbeats 1000000 in
theorem rnames_ok (l : List File) (hl : l.length ≤ 1000) : AC Try.prog 38 [files l] [] (fun r n => n = [] ∧ r = strsA (namesF l)) := by
 refine ac_of_awp (rs := [2]) (nt := 64) Try.func38 rfl rfl rfl rfl (fun w0 C0 hq => ?_)
 refine awp_seq ?_
 refine awp_region ?_
 refine r_assign rfl rfl ?_
 refine awl_nil ?_
 refine x_then ?_
 refine awp_seq ?_
 refine awp_region ?_
 refine r_lit 6 (parts := []) rfl TF.sl57 TF.sz9 TF.zraw9 rfl rfl rfl rfl rfl rfl rfl ?_
 refine r_assign rfl rfl ?_
 refine awl_nil ?_
 refine x_then ?_
 refine awp_seq ?_
 refine awp_seq ?_
 refine awp_region ?_
 refine r_assign rfl rfl ?_
 refine awl_nil ?_
 refine x_then ?_
 refine awp_block ?_
 refine awp_loop (fun nn0 S => ∃ i : Nat, ∃ acc : List ByteArray, S = ⟨64, [(0, .a (files l)), (3, .a (strsA acc)), (4, .a (.v (.int .i64 ((i : Int)))))], []⟩ ∧ nn0 = l.length - i ∧ (i ≤ l.length) ∧ (acc = namesF (l.take i)) ∧ (acc.length ≤ i)) (l.length - (0)) ⟨64, [(0, .a (files l)), (3, .a (strsA ([]))), (4, .a (.v (.int .i64 (((0) : Int)))))], []⟩ ⟨rfl, (Slots.cons rfl (by first | exact .refl _ | exact .nilOwn _ _ | exact .nilSl _ | exact .ownSl _ _ _  | exact SV.le.of_eq (by simp)) (Slots.cons rfl (by first | exact .refl _ | exact .nilOwn _ _ | exact .nilSl _ | exact .ownSl _ _ _  | exact SV.le.of_eq (by simp)) (Slots.cons rfl (by first | exact .refl _ | exact .nilOwn _ _ | exact .nilSl _ | exact .ownSl _ _ _  | exact SV.le.of_eq (by simp)) Slots.nil))), (by first | exact List.Sublist.refl _ | exact .cons_cons _ (.cons _ (.refl _)) | exact List.nil_sublist _ | exact .cons _ (.refl _) | exact .cons _ (.cons _ (.refl _)) | exact .cons _ (.cons _ (.cons _ (.refl _))) | exact .cons _ (.cons _ (.cons _ (.cons _ (.refl _)))) | exact .cons_cons _ (List.nil_sublist _))⟩ ⟨0, [], rfl, rfl, Nat.zero_le _, rfl, (by simp)⟩ ?_
 rintro nn0 _ ⟨i, acc, rfl, rfl, hi, hacc, hal⟩
 refine awp_seq ?_
 refine awp_seq ?_
 refine awp_region ?_
 refine r_move rfl rfl ?_
 refine r_move rfl rfl ?_
 first | (refine r_lenS rfl rfl TF.sl22 rfl ?_) | (refine r_lenNil rfl TF.sl22 rfl ?_) | (refine r_lenV rfl TF.sl22 rfl ?_)
 refine r_cmp rfl rfl rfl rfl ?_
 refine awl_nil ?_
 refine x_then ?_
 refine awp_cond rfl (fun hc0 => ?_) (fun hc0 => ?_)
 ·
  have hltx : i < l.length := by have := of_decide_eq_true hc0; simpa using this
  obtain ⟨x, hx⟩ := get_lt hltx
  refine awp_skip ?_
  refine x_then ?_
  refine awp_seq ?_
  refine awp_block ?_
  refine awp_seq ?_
  refine awp_region ?_
  refine r_assign rfl rfl ?_
  refine awl_nil ?_
  refine x_then ?_
  refine awp_cut (fun S => ∃ j : Nat, S = ⟨64, [(0, .a (files l)), (3, .a (strsA acc)), (4, .a (.v (.int .i64 ((i : Int))))), (5, .a (.v (.int .i64 ((j : Int)))))], []⟩ ∧ (j ≤ acc.length) ∧ ((acc.take j).all (ltS · x.name) = true) ∧ (∀ y, acc[j]? = some y → ltS y x.name = false)) ?_ ?_
  ·
   refine awp_block ?_
   refine awp_loop (fun nn0 S => ∃ j : Nat, S = ⟨64, [(0, .a (files l)), (3, .a (strsA acc)), (4, .a (.v (.int .i64 ((i : Int))))), (5, .a (.v (.int .i64 ((j : Int)))))], []⟩ ∧ nn0 = acc.length - j ∧ (j ≤ acc.length) ∧ ((acc.take j).all (ltS · x.name) = true)) (acc.length - (0)) ⟨64, [(0, .a (files l)), (3, .a (strsA acc)), (4, .a (.v (.int .i64 ((i : Int))))), (5, .a (.v (.int .i64 (((0) : Int)))))], []⟩ ⟨rfl, (Slots.cons rfl (by first | exact .refl _ | exact .nilOwn _ _ | exact .nilSl _ | exact .ownSl _ _ _  | exact SV.le.of_eq (by simp)) (Slots.cons rfl (by first | exact .refl _ | exact .nilOwn _ _ | exact .nilSl _ | exact .ownSl _ _ _  | exact SV.le.of_eq (by simp)) (Slots.cons rfl (by first | exact .refl _ | exact .nilOwn _ _ | exact .nilSl _ | exact .ownSl _ _ _  | exact SV.le.of_eq (by simp)) (Slots.cons rfl (by first | exact .refl _ | exact .nilOwn _ _ | exact .nilSl _ | exact .ownSl _ _ _  | exact SV.le.of_eq (by simp)) Slots.nil)))), (by first | exact List.Sublist.refl _ | exact .cons_cons _ (.cons _ (.refl _)) | exact List.nil_sublist _ | exact .cons _ (.refl _) | exact .cons _ (.cons _ (.refl _)) | exact .cons _ (.cons _ (.cons _ (.refl _))) | exact .cons _ (.cons _ (.cons _ (.cons _ (.refl _)))) | exact .cons_cons _ (List.nil_sublist _))⟩ ⟨0, rfl, rfl, Nat.zero_le _, rfl⟩ ?_
   rintro nn0 _ ⟨j, rfl, rfl, hj, ha⟩
   refine awp_seq ?_
   refine awp_seq ?_
   rcases Bool.eq_false_or_eq_true (decide ((j : Int) < (acc.map (fun s : ByteArray => [AV.v (.string s)])).length)) with hg17 | hg17
   ·
    have hlty : j < acc.length := by have := of_decide_eq_true hg17; simpa using this
    obtain ⟨y, hy⟩ := get_lt hlty
    refine awp_drawS [13, 14, 15, 16, 17, 18, 19, 20, 21, 22, 23, 24, 25, 26] [_, _, _, _, _, _, _, _, _, _, _, _, _, _] [] [] TF.mixed rfl rfl rfl ⟨⟨⟨⟨⟨⟨⟨⟨⟨⟨⟨⟨⟨⟨trivial
     , ⟨_, rfl, fun sl hd hr ho => by
       refine r_move (hr 5 _ rfl rfl rfl) rfl ?_
       exact awl_nil ⟨rfl, post_put⟩⟩⟩
     , ⟨_, rfl, fun sl hd hr ho => by
       refine r_move (hr 3 _ rfl rfl rfl) rfl ?_
       exact awl_nil ⟨rfl, post_put⟩⟩⟩
     , ⟨_, rfl, fun sl hd hr ho => by
       first | (refine r_lenS (hd 1 _ rfl rfl rfl) rfl TF.sl57 rfl ?_) | (refine r_lenNil (hd 1 _ rfl rfl rfl) TF.sl57 rfl ?_) | (refine r_lenV (hd 1 _ rfl rfl rfl) TF.sl57 rfl ?_)
       exact awl_nil ⟨rfl, post_put⟩⟩⟩
     , ⟨_, rfl, fun sl hd hr ho => by
       refine r_cmp (hd 0 _ rfl rfl rfl) (hd 2 _ rfl rfl rfl) rfl rfl ?_
       exact awl_nil ⟨rfl, post_put⟩⟩⟩
     , ⟨_, rfl, fun sl hd hr ho => by
       refine r_move (hd 3 _ rfl rfl rfl) rfl ?_
       exact awl_nil ⟨rfl, post_put⟩⟩⟩
     , ⟨_, rfl, fun sl hd hr ho => by
       refine g_run rfl (hd 4 _ rfl rfl rfl) hg17 ?_
       refine r_move (hr 3 _ rfl rfl rfl) rfl ?_
       exact awl_nil ⟨rfl, post_put⟩⟩⟩
     , ⟨_, rfl, fun sl hd hr ho => by
       refine g_run rfl (hd 4 _ rfl rfl rfl) hg17 ?_
       refine r_move (hr 5 _ rfl rfl rfl) rfl ?_
       exact awl_nil ⟨rfl, post_put⟩⟩⟩
     , ⟨_, rfl, fun sl hd hr ho => by
       refine g_run rfl (hd 4 _ rfl rfl rfl) hg17 ?_
       refine r_index (hd 5 _ rfl rfl rfl) rfl (hd 6 _ rfl rfl rfl) TF.sl57 TF.sz9 (by omega) (get_map hy) rfl ?_
       exact awl_nil ⟨rfl, post_put⟩⟩⟩
     , ⟨_, rfl, fun sl hd hr ho => by
       refine g_run rfl (hd 4 _ rfl rfl rfl) hg17 ?_
       refine r_load1 (hd 7 _ rfl rfl rfl) TF.agg9 rfl ?_
       exact awl_nil ⟨rfl, post_put⟩⟩⟩
     , ⟨_, rfl, fun sl hd hr ho => by
       refine g_run rfl (hd 4 _ rfl rfl rfl) hg17 ?_
       refine r_move (hr 0 _ rfl rfl rfl) rfl ?_
       exact awl_nil ⟨rfl, post_put⟩⟩⟩
     , ⟨_, rfl, fun sl hd hr ho => by
       refine g_run rfl (hd 4 _ rfl rfl rfl) hg17 ?_
       refine r_move (hr 4 _ rfl rfl rfl) rfl ?_
       exact awl_nil ⟨rfl, post_put⟩⟩⟩
     , ⟨_, rfl, fun sl hd hr ho => by
       refine g_run rfl (hd 4 _ rfl rfl rfl) hg17 ?_
       refine r_index (hd 9 _ rfl rfl rfl) rfl (hd 10 _ rfl rfl rfl) TF.sl22 TF.sz54 (by omega) (get_map hx) rfl ?_
       exact awl_nil ⟨rfl, post_put⟩⟩⟩
     , ⟨_, rfl, fun sl hd hr ho => by
       refine g_run rfl (hd 4 _ rfl rfl rfl) hg17 ?_
       first | (refine r_fieldcp (hd 11 _ rfl rfl rfl) TF.f54_0 TF.sz9 rfl ?_) | (refine r_fieldb (hd 11 _ rfl rfl rfl) TF.f54_0 TF.sz9 rfl ?_)
       exact awl_nil ⟨rfl, post_put⟩⟩⟩
     , ⟨_, rfl, fun sl hd hr ho => by
       refine g_run rfl (hd 4 _ rfl rfl rfl) hg17 ?_
       refine r_load1 (hd 12 _ rfl rfl rfl) TF.agg9 rfl ?_
       exact awl_nil ⟨rfl, post_put⟩⟩⟩
     (by rfl) ?_
    refine g_run rfl rfl hg17 ?_
    refine r_str2 rfl rfl rfl rfl ?_
    refine r_pickT rfl hg17 rfl rfl ?_
    refine awl_nil ?_
    refine x_then ?_
    refine awp_cond rfl (fun hc1 => ?_) (fun hc1 => ?_)
    ·
     refine awp_skip ?_
     refine x_then ?_
     refine awp_block ?_
     refine awp_region ?_
     refine r_move rfl rfl ?_
     refine r_ari _ rfl rfl rfl (wrap_id (by first | omega | (simp; omega))) rfl ?_
     refine r_assign rfl rfl ?_
     refine awl_nil ?_
     refine x_block ?_
     refine x_then ?_
     refine ⟨acc.length - (j + 1), ⟨64, [(0, .a (files l)), (3, .a (strsA acc)), (4, .a (.v (.int .i64 ((i : Int))))), (5, .a (.v (.int .i64 (((j + 1) : Int)))))], []⟩, ⟨rfl, (Slots.cons rfl (by first | exact .refl _ | exact .nilOwn _ _ | exact .nilSl _ | exact .ownSl _ _ _  | exact SV.le.of_eq (by simp)) (Slots.cons rfl (by first | exact .refl _ | exact .nilOwn _ _ | exact .nilSl _ | exact .ownSl _ _ _  | exact SV.le.of_eq (by simp)) (Slots.cons rfl (by first | exact .refl _ | exact .nilOwn _ _ | exact .nilSl _ | exact .ownSl _ _ _  | exact SV.le.of_eq (by simp)) (Slots.cons rfl (by first | exact .refl _ | exact .nilOwn _ _ | exact .nilSl _ | exact .ownSl _ _ _  | exact SV.le.of_eq (by simp)) Slots.nil)))), (by first | exact List.Sublist.refl _ | exact .cons_cons _ (.cons _ (.refl _)) | exact List.nil_sublist _ | exact .cons _ (.refl _) | exact .cons _ (.cons _ (.refl _)) | exact .cons _ (.cons _ (.cons _ (.refl _))) | exact .cons _ (.cons _ (.cons _ (.cons _ (.refl _)))) | exact .cons_cons _ (List.nil_sublist _))⟩, (by omega), ⟨j + 1, rfl, rfl, (by have := (List.getElem?_eq_some_iff.1 hy).1; omega), (all_takeB hy ha hc1)⟩⟩
    ·
     refine awp_exit ?_
     refine x_thenE ?_
     refine x_thenE ?_
     refine x_blockE ?_
     refine x_then ?_
     refine ⟨⟨64, [(0, .a (files l)), (3, .a (strsA acc)), (4, .a (.v (.int .i64 ((i : Int))))), (5, .a (.v (.int .i64 (((j) : Int)))))], []⟩, ⟨rfl, (Slots.cons rfl (by first | exact .refl _ | exact .nilOwn _ _ | exact .nilSl _ | exact .ownSl _ _ _  | exact SV.le.of_eq (by simp)) (Slots.cons rfl (by first | exact .refl _ | exact .nilOwn _ _ | exact .nilSl _ | exact .ownSl _ _ _  | exact SV.le.of_eq (by simp)) (Slots.cons rfl (by first | exact .refl _ | exact .nilOwn _ _ | exact .nilSl _ | exact .ownSl _ _ _  | exact SV.le.of_eq (by simp)) (Slots.cons rfl (by first | exact .refl _ | exact .nilOwn _ _ | exact .nilSl _ | exact .ownSl _ _ _  | exact SV.le.of_eq (by simp)) Slots.nil)))), (by first | exact List.Sublist.refl _ | exact .cons_cons _ (.cons _ (.refl _)) | exact List.nil_sublist _ | exact .cons _ (.refl _) | exact .cons _ (.cons _ (.refl _)) | exact .cons _ (.cons _ (.cons _ (.refl _))) | exact .cons _ (.cons _ (.cons _ (.cons _ (.refl _)))) | exact .cons_cons _ (List.nil_sublist _))⟩, ⟨j, rfl, hj, ha, (fun z hz => by first | (rw [hy] at hz; cases hz; exact hc1) | (have := (List.getElem?_eq_some_iff.1 hz).1; omega))⟩⟩
   ·
    have hgej : acc.length ≤ j := by have := of_decide_eq_false hg17; simp at this; omega
    refine awp_drawS [13, 14, 15, 16, 17, 18, 19, 20, 21, 22, 23, 24, 25, 26] [_, _, _, _, _, _, _, _, _, _, _, _, _, _] [] [] TF.mixed rfl rfl rfl ⟨⟨⟨⟨⟨⟨⟨⟨⟨⟨⟨⟨⟨⟨trivial
     , ⟨_, rfl, fun sl hd hr ho => by
       refine r_move (hr 5 _ rfl rfl rfl) rfl ?_
       exact awl_nil ⟨rfl, post_put⟩⟩⟩
     , ⟨_, rfl, fun sl hd hr ho => by
       refine r_move (hr 3 _ rfl rfl rfl) rfl ?_
       exact awl_nil ⟨rfl, post_put⟩⟩⟩
     , ⟨_, rfl, fun sl hd hr ho => by
       first | (refine r_lenS (hd 1 _ rfl rfl rfl) rfl TF.sl57 rfl ?_) | (refine r_lenNil (hd 1 _ rfl rfl rfl) TF.sl57 rfl ?_) | (refine r_lenV (hd 1 _ rfl rfl rfl) TF.sl57 rfl ?_)
       exact awl_nil ⟨rfl, post_put⟩⟩⟩
     , ⟨_, rfl, fun sl hd hr ho => by
       refine r_cmp (hd 0 _ rfl rfl rfl) (hd 2 _ rfl rfl rfl) rfl rfl ?_
       exact awl_nil ⟨rfl, post_put⟩⟩⟩
     , ⟨_, rfl, fun sl hd hr ho => by
       refine r_move (hd 3 _ rfl rfl rfl) rfl ?_
       exact awl_nil ⟨rfl, post_put⟩⟩⟩
     , ⟨_, rfl, fun sl hd hr ho => by
       refine g_skip rfl (hd 4 _ rfl rfl rfl) hg17 rfl ?_
       exact awl_nil ⟨rfl, post_put⟩⟩⟩
     , ⟨_, rfl, fun sl hd hr ho => by
       refine g_skip rfl (hd 4 _ rfl rfl rfl) hg17 rfl ?_
       exact awl_nil ⟨rfl, post_put⟩⟩⟩
     , ⟨_, rfl, fun sl hd hr ho => by
       refine g_skip rfl (hd 4 _ rfl rfl rfl) hg17 rfl ?_
       exact awl_nil ⟨rfl, post_put⟩⟩⟩
     , ⟨_, rfl, fun sl hd hr ho => by
       refine g_skip rfl (hd 4 _ rfl rfl rfl) hg17 rfl ?_
       exact awl_nil ⟨rfl, post_put⟩⟩⟩
     , ⟨_, rfl, fun sl hd hr ho => by
       refine g_skip rfl (hd 4 _ rfl rfl rfl) hg17 rfl ?_
       exact awl_nil ⟨rfl, post_put⟩⟩⟩
     , ⟨_, rfl, fun sl hd hr ho => by
       refine g_skip rfl (hd 4 _ rfl rfl rfl) hg17 rfl ?_
       exact awl_nil ⟨rfl, post_put⟩⟩⟩
     , ⟨_, rfl, fun sl hd hr ho => by
       refine g_skip rfl (hd 4 _ rfl rfl rfl) hg17 rfl ?_
       exact awl_nil ⟨rfl, post_put⟩⟩⟩
     , ⟨_, rfl, fun sl hd hr ho => by
       refine g_skip rfl (hd 4 _ rfl rfl rfl) hg17 rfl ?_
       exact awl_nil ⟨rfl, post_put⟩⟩⟩
     , ⟨_, rfl, fun sl hd hr ho => by
       refine g_skip rfl (hd 4 _ rfl rfl rfl) hg17 rfl ?_
       exact awl_nil ⟨rfl, post_put⟩⟩⟩
     (by rfl) ?_
    refine g_skip rfl rfl hg17 rfl ?_
    refine r_pickF rfl hg17 rfl rfl ?_
    refine awl_nil ?_
    refine x_then ?_
    refine awp_condF rfl ?_
    refine awp_exit ?_
    refine x_thenE ?_
    refine x_thenE ?_
    refine x_blockE ?_
    refine x_then ?_
    refine ⟨⟨64, [(0, .a (files l)), (3, .a (strsA acc)), (4, .a (.v (.int .i64 ((i : Int))))), (5, .a (.v (.int .i64 (((j) : Int)))))], []⟩, ⟨rfl, (Slots.cons rfl (by first | exact .refl _ | exact .nilOwn _ _ | exact .nilSl _ | exact .ownSl _ _ _  | exact SV.le.of_eq (by simp)) (Slots.cons rfl (by first | exact .refl _ | exact .nilOwn _ _ | exact .nilSl _ | exact .ownSl _ _ _  | exact SV.le.of_eq (by simp)) (Slots.cons rfl (by first | exact .refl _ | exact .nilOwn _ _ | exact .nilSl _ | exact .ownSl _ _ _  | exact SV.le.of_eq (by simp)) (Slots.cons rfl (by first | exact .refl _ | exact .nilOwn _ _ | exact .nilSl _ | exact .ownSl _ _ _  | exact SV.le.of_eq (by simp)) Slots.nil)))), (by first | exact List.Sublist.refl _ | exact .cons_cons _ (.cons _ (.refl _)) | exact List.nil_sublist _ | exact .cons _ (.refl _) | exact .cons _ (.cons _ (.refl _)) | exact .cons _ (.cons _ (.cons _ (.refl _))) | exact .cons _ (.cons _ (.cons _ (.cons _ (.refl _)))) | exact .cons_cons _ (List.nil_sublist _))⟩, ⟨j, rfl, hj, ha, (fun z hz => by first | (rw [hy] at hz; cases hz; exact hc1) | (have := (List.getElem?_eq_some_iff.1 hz).1; omega))⟩⟩
  ·
   rintro _ ⟨j, rfl, hj, ha, hs⟩
   refine awp_seq ?_
   refine awp_seq ?_
   rcases Bool.eq_false_or_eq_true (decide ((j : Int) < (acc.map (fun s : ByteArray => [AV.v (.string s)])).length)) with hg35 | hg35
   ·
    have hlty : j < acc.length := by have := of_decide_eq_true hg35; simpa using this
    obtain ⟨y, hy⟩ := get_lt hlty
    refine awp_drawS [31, 32, 33, 34, 35, 36, 37, 38, 39, 40, 41, 42, 43, 44] [_, _, _, _, _, _, _, _, _, _, _, _, _, _] [] [] TF.mixed rfl rfl rfl ⟨⟨⟨⟨⟨⟨⟨⟨⟨⟨⟨⟨⟨⟨trivial
     , ⟨_, rfl, fun sl hd hr ho => by
       refine r_move (hr 5 _ rfl rfl rfl) rfl ?_
       exact awl_nil ⟨rfl, post_put⟩⟩⟩
     , ⟨_, rfl, fun sl hd hr ho => by
       refine r_move (hr 3 _ rfl rfl rfl) rfl ?_
       exact awl_nil ⟨rfl, post_put⟩⟩⟩
     , ⟨_, rfl, fun sl hd hr ho => by
       first | (refine r_lenS (hd 1 _ rfl rfl rfl) rfl TF.sl57 rfl ?_) | (refine r_lenNil (hd 1 _ rfl rfl rfl) TF.sl57 rfl ?_) | (refine r_lenV (hd 1 _ rfl rfl rfl) TF.sl57 rfl ?_)
       exact awl_nil ⟨rfl, post_put⟩⟩⟩
     , ⟨_, rfl, fun sl hd hr ho => by
       refine r_cmp (hd 0 _ rfl rfl rfl) (hd 2 _ rfl rfl rfl) rfl rfl ?_
       exact awl_nil ⟨rfl, post_put⟩⟩⟩
     , ⟨_, rfl, fun sl hd hr ho => by
       refine r_move (hd 3 _ rfl rfl rfl) rfl ?_
       exact awl_nil ⟨rfl, post_put⟩⟩⟩
     , ⟨_, rfl, fun sl hd hr ho => by
       refine g_run rfl (hd 4 _ rfl rfl rfl) hg35 ?_
       refine r_move (hr 3 _ rfl rfl rfl) rfl ?_
       exact awl_nil ⟨rfl, post_put⟩⟩⟩
     , ⟨_, rfl, fun sl hd hr ho => by
       refine g_run rfl (hd 4 _ rfl rfl rfl) hg35 ?_
       refine r_move (hr 5 _ rfl rfl rfl) rfl ?_
       exact awl_nil ⟨rfl, post_put⟩⟩⟩
     , ⟨_, rfl, fun sl hd hr ho => by
       refine g_run rfl (hd 4 _ rfl rfl rfl) hg35 ?_
       refine r_index (hd 5 _ rfl rfl rfl) rfl (hd 6 _ rfl rfl rfl) TF.sl57 TF.sz9 (by omega) (get_map hy) rfl ?_
       exact awl_nil ⟨rfl, post_put⟩⟩⟩
     , ⟨_, rfl, fun sl hd hr ho => by
       refine g_run rfl (hd 4 _ rfl rfl rfl) hg35 ?_
       refine r_load1 (hd 7 _ rfl rfl rfl) TF.agg9 rfl ?_
       exact awl_nil ⟨rfl, post_put⟩⟩⟩
     , ⟨_, rfl, fun sl hd hr ho => by
       refine g_run rfl (hd 4 _ rfl rfl rfl) hg35 ?_
       refine r_move (hr 0 _ rfl rfl rfl) rfl ?_
       exact awl_nil ⟨rfl, post_put⟩⟩⟩
     , ⟨_, rfl, fun sl hd hr ho => by
       refine g_run rfl (hd 4 _ rfl rfl rfl) hg35 ?_
       refine r_move (hr 4 _ rfl rfl rfl) rfl ?_
       exact awl_nil ⟨rfl, post_put⟩⟩⟩
     , ⟨_, rfl, fun sl hd hr ho => by
       refine g_run rfl (hd 4 _ rfl rfl rfl) hg35 ?_
       refine r_index (hd 9 _ rfl rfl rfl) rfl (hd 10 _ rfl rfl rfl) TF.sl22 TF.sz54 (by omega) (get_map hx) rfl ?_
       exact awl_nil ⟨rfl, post_put⟩⟩⟩
     , ⟨_, rfl, fun sl hd hr ho => by
       refine g_run rfl (hd 4 _ rfl rfl rfl) hg35 ?_
       first | (refine r_fieldcp (hd 11 _ rfl rfl rfl) TF.f54_0 TF.sz9 rfl ?_) | (refine r_fieldb (hd 11 _ rfl rfl rfl) TF.f54_0 TF.sz9 rfl ?_)
       exact awl_nil ⟨rfl, post_put⟩⟩⟩
     , ⟨_, rfl, fun sl hd hr ho => by
       refine g_run rfl (hd 4 _ rfl rfl rfl) hg35 ?_
       refine r_load1 (hd 12 _ rfl rfl rfl) TF.agg9 rfl ?_
       exact awl_nil ⟨rfl, post_put⟩⟩⟩
     (by rfl) ?_
    refine g_run rfl rfl hg35 ?_
    refine r_str2 rfl rfl rfl rfl ?_
    refine r_pickT rfl hg35 rfl rfl ?_
    refine awl_nil ?_
    refine x_then ?_
    refine awp_cond rfl (fun hc2 => ?_) (fun hc2 => ?_)
    ·
     have hins : insS acc x.name = acc := by rw [insS_at ha hj hs, hy]; simp only [show y = x.name from by simpa using hc2, if_true]
     refine awp_exit ?_
     refine x_thenE ?_
     refine x_blockE ?_
     refine x_then ?_
     refine awp_region ?_
     refine r_move rfl rfl ?_
     refine r_ari _ rfl rfl rfl (wrap_id (by first | omega | (simp; omega))) rfl ?_
     refine r_assign rfl rfl ?_
     refine awl_nil ?_
     refine x_then ?_
     refine ⟨l.length - (i + 1), ⟨64, [(0, .a (files l)), (3, .a (strsA (insS acc x.name))), (4, .a (.v (.int .i64 (((i + 1) : Int)))))], []⟩, ⟨rfl, (Slots.cons rfl (by first | exact .refl _ | exact .nilOwn _ _ | exact .nilSl _ | exact .ownSl _ _ _  | exact SV.le.ownEq (by first | rfl | (rw [hins]; done) | (rw [hins]; rfl) | (rw [hins]; simp [chunks, List.map_take, List.map_drop]; rfl)) | exact SV.le.of_eq (by first | rfl | (rw [hins]; done) | (rw [hins]; rfl) | (rw [hins]; simp [chunks, List.map_take, List.map_drop]; rfl))) (Slots.cons rfl (by first | exact .refl _ | exact .nilOwn _ _ | exact .nilSl _ | exact .ownSl _ _ _  | exact SV.le.ownEq (by first | rfl | (rw [hins]; done) | (rw [hins]; rfl) | (rw [hins]; simp [chunks, List.map_take, List.map_drop]; rfl)) | exact SV.le.of_eq (by first | rfl | (rw [hins]; done) | (rw [hins]; rfl) | (rw [hins]; simp [chunks, List.map_take, List.map_drop]; rfl))) (Slots.cons rfl (by first | exact .refl _ | exact .nilOwn _ _ | exact .nilSl _ | exact .ownSl _ _ _  | exact SV.le.ownEq (by first | rfl | (rw [hins]; done) | (rw [hins]; rfl) | (rw [hins]; simp [chunks, List.map_take, List.map_drop]; rfl)) | exact SV.le.of_eq (by first | rfl | (rw [hins]; done) | (rw [hins]; rfl) | (rw [hins]; simp [chunks, List.map_take, List.map_drop]; rfl))) Slots.nil))), (by first | exact List.Sublist.refl _ | exact .cons_cons _ (.cons _ (.refl _)) | exact List.nil_sublist _ | exact .cons _ (.refl _) | exact .cons _ (.cons _ (.refl _)) | exact .cons _ (.cons _ (.cons _ (.refl _))) | exact .cons _ (.cons _ (.cons _ (.cons _ (.refl _)))) | exact .cons_cons _ (List.nil_sublist _))⟩, (by omega), ⟨i + 1, insS acc x.name, rfl, rfl, (by omega), (names_step hx hacc), (by have := insS_len (n := x.name) (l := acc); omega)⟩⟩
    ·
     have hins : insS acc x.name = acc.take j ++ x.name :: acc.drop j := by rw [insS_at ha hj hs, hy]; simp only [show ¬ y = x.name from by simpa using hc2, if_false]
     refine awp_skip ?_
     refine x_then ?_
     refine awp_drawS [47, 48, 49, 50, 51, 52, 53, 54, 55, 56, 57, 58, 59, 60, 61] [_, _, _, _, _, _, _, _, _, _, _, _, _, _, _] [[], [], [], [], [47], [], [], [], [], [], [], [47, 51]] [(0, 47), (4, 47), (10, 57), (11, 47)] TF.mixed rfl rfl rfl ⟨⟨⟨⟨⟨⟨⟨⟨⟨⟨⟨⟨⟨⟨⟨trivial
      , ⟨_, rfl, fun sl hd hr ho => by
        refine r_lit 47 (parts := []) rfl TF.sl57 TF.sz9 TF.zraw9 rfl rfl parts_nil rfl rfl rfl rfl ?_
        exact awl_nil ⟨rfl, (post_dem (ho 47 (List.mem_of_elem_eq_true rfl)))⟩⟩⟩
      , ⟨_, rfl, fun sl hd hr ho => by
        refine r_move (hr 3 _ rfl rfl rfl) rfl ?_
        exact awl_nil ⟨rfl, post_put⟩⟩⟩
      , ⟨_, rfl, fun sl hd hr ho => by
        refine r_move (hr 5 _ rfl rfl rfl) rfl ?_
        exact awl_nil ⟨rfl, post_put⟩⟩⟩
      , ⟨_, rfl, fun sl hd hr ho => by
        refine r_sliceH (hd 1 _ rfl rfl rfl) rfl (hd 2 _ rfl rfl rfl) TF.sl57 TF.sz9 (by omega) (by simp; omega) rfl ?_
        exact awl_nil ⟨rfl, post_put⟩⟩⟩
      , ⟨_, rfl, fun sl hd hr ho => by
        refine r_append 47 (hd 0 _ rfl rfl rfl) (by first | exact .own _ | exact .nil) (hd 3 _ rfl rfl rfl) (by first | exact .sl _ | exact .own _ _ | exact .nil) TF.sl57 TF.sz9 (by decide) TF.by9 TF.zlen9 (by simp [chunks] <;> omega) (by simp [chunks] <;> omega) rfl ?_
        exact awl_nil ⟨rfl, (post_dem (ho 47 (List.mem_of_elem_eq_true rfl)))⟩⟩⟩
      , ⟨_, rfl, fun sl hd hr ho => by
        refine r_move (hr 0 _ rfl rfl rfl) rfl ?_
        exact awl_nil ⟨rfl, post_put⟩⟩⟩
      , ⟨_, rfl, fun sl hd hr ho => by
        refine r_move (hr 4 _ rfl rfl rfl) rfl ?_
        exact awl_nil ⟨rfl, post_put⟩⟩⟩
      , ⟨_, rfl, fun sl hd hr ho => by
        refine r_index (hd 5 _ rfl rfl rfl) rfl (hd 6 _ rfl rfl rfl) TF.sl22 TF.sz54 (by omega) (get_map hx) rfl ?_
        exact awl_nil ⟨rfl, post_put⟩⟩⟩
      , ⟨_, rfl, fun sl hd hr ho => by
        first | (refine r_fieldcp (hd 7 _ rfl rfl rfl) TF.f54_0 TF.sz9 rfl ?_) | (refine r_fieldb (hd 7 _ rfl rfl rfl) TF.f54_0 TF.sz9 rfl ?_)
        exact awl_nil ⟨rfl, post_put⟩⟩⟩
      , ⟨_, rfl, fun sl hd hr ho => by
        refine r_load1 (hd 8 _ rfl rfl rfl) TF.agg9 rfl ?_
        exact awl_nil ⟨rfl, post_put⟩⟩⟩
      , ⟨_, rfl, fun sl hd hr ho => by
        refine r_lit 57 (parts := [(0, .tmp 56)]) rfl TF.sl57 TF.sz9 TF.zraw9 rfl rfl (parts_cons (hd 9 _ rfl rfl rfl) parts_nil) rfl rfl rfl rfl ?_
        exact awl_nil ⟨rfl, (post_dem (ho 57 (List.mem_of_elem_eq_true rfl)))⟩⟩⟩
      , ⟨_, rfl, fun sl hd hr ho => by
        refine r_append 47 (hd 4 _ rfl rfl rfl) (by first | exact .own _ | exact .nil) (hd 10 _ rfl rfl rfl) (by first | exact .sl _ | exact .own _ _ | exact .nil) TF.sl57 TF.sz9 (by decide) TF.by9 TF.zlen9 (by simp [chunks] <;> omega) (by simp [chunks] <;> omega) rfl ?_
        exact awl_nil ⟨rfl, (post_dem (ho 47 (List.mem_of_elem_eq_true rfl)))⟩⟩⟩
      , ⟨_, rfl, fun sl hd hr ho => by
        refine r_move (hr 3 _ rfl rfl rfl) rfl ?_
        exact awl_nil ⟨rfl, post_put⟩⟩⟩
      , ⟨_, rfl, fun sl hd hr ho => by
        refine r_move (hr 5 _ rfl rfl rfl) rfl ?_
        exact awl_nil ⟨rfl, post_put⟩⟩⟩
      , ⟨_, rfl, fun sl hd hr ho => by
        refine r_sliceL (hd 12 _ rfl rfl rfl) rfl (hd 13 _ rfl rfl rfl) TF.sl57 TF.sz9 (by omega) (by simp; omega) rfl ?_
        exact awl_nil ⟨rfl, post_put⟩⟩⟩
      (by rfl) ?_
     refine r_append 47 rfl (by first | exact .own _ | exact .nil) rfl (by first | exact .sl _ | exact .own _ _ | exact .nil) TF.sl57 TF.sz9 (by decide) TF.by9 TF.zlen9 (by simp [chunks] <;> omega) (by simp [chunks] <;> omega) rfl ?_
     refine r_assign rfl rfl ?_
     refine awl_nil ?_
     refine x_block ?_
     refine x_then ?_
     refine awp_region ?_
     refine r_move rfl rfl ?_
     refine r_ari _ rfl rfl rfl (wrap_id (by first | omega | (simp; omega))) rfl ?_
     refine r_assign rfl rfl ?_
     refine awl_nil ?_
     refine x_then ?_
     refine ⟨l.length - (i + 1), ⟨64, [(0, .a (files l)), (3, .a (strsA (insS acc x.name))), (4, .a (.v (.int .i64 (((i + 1) : Int)))))], []⟩, ⟨rfl, (Slots.cons rfl (by first | exact .refl _ | exact .nilOwn _ _ | exact .nilSl _ | exact .ownSl _ _ _  | exact SV.le.ownEq (by first | rfl | (rw [hins]; done) | (rw [hins]; rfl) | (rw [hins]; simp [chunks, List.map_take, List.map_drop]; rfl)) | exact SV.le.of_eq (by first | rfl | (rw [hins]; done) | (rw [hins]; rfl) | (rw [hins]; simp [chunks, List.map_take, List.map_drop]; rfl))) (Slots.cons rfl (by first | exact .refl _ | exact .nilOwn _ _ | exact .nilSl _ | exact .ownSl _ _ _  | exact SV.le.ownEq (by first | rfl | (rw [hins]; done) | (rw [hins]; rfl) | (rw [hins]; simp [chunks, List.map_take, List.map_drop]; rfl)) | exact SV.le.of_eq (by first | rfl | (rw [hins]; done) | (rw [hins]; rfl) | (rw [hins]; simp [chunks, List.map_take, List.map_drop]; rfl))) (Slots.cons rfl (by first | exact .refl _ | exact .nilOwn _ _ | exact .nilSl _ | exact .ownSl _ _ _  | exact SV.le.ownEq (by first | rfl | (rw [hins]; done) | (rw [hins]; rfl) | (rw [hins]; simp [chunks, List.map_take, List.map_drop]; rfl)) | exact SV.le.of_eq (by first | rfl | (rw [hins]; done) | (rw [hins]; rfl) | (rw [hins]; simp [chunks, List.map_take, List.map_drop]; rfl))) Slots.nil))), (by first | exact List.Sublist.refl _ | exact .cons_cons _ (.cons _ (.refl _)) | exact List.nil_sublist _ | exact .cons _ (.refl _) | exact .cons _ (.cons _ (.refl _)) | exact .cons _ (.cons _ (.cons _ (.refl _))) | exact .cons _ (.cons _ (.cons _ (.cons _ (.refl _)))) | exact .cons_cons _ (List.nil_sublist _))⟩, (by omega), ⟨i + 1, insS acc x.name, rfl, rfl, (by omega), (names_step hx hacc), (by have := insS_len (n := x.name) (l := acc); omega)⟩⟩
   ·
    have hgej : acc.length ≤ j := by have := of_decide_eq_false hg35; simp at this; omega
    have hins : insS acc x.name = acc.take j ++ x.name :: acc.drop j := by rw [insS_at ha hj hs, List.getElem?_eq_none (by omega), List.take_of_length_le (by omega), List.drop_eq_nil_of_le (by omega)]
    refine awp_drawS [31, 32, 33, 34, 35, 36, 37, 38, 39, 40, 41, 42, 43, 44] [_, _, _, _, _, _, _, _, _, _, _, _, _, _] [] [] TF.mixed rfl rfl rfl ⟨⟨⟨⟨⟨⟨⟨⟨⟨⟨⟨⟨⟨⟨trivial
     , ⟨_, rfl, fun sl hd hr ho => by
       refine r_move (hr 5 _ rfl rfl rfl) rfl ?_
       exact awl_nil ⟨rfl, post_put⟩⟩⟩
     , ⟨_, rfl, fun sl hd hr ho => by
       refine r_move (hr 3 _ rfl rfl rfl) rfl ?_
       exact awl_nil ⟨rfl, post_put⟩⟩⟩
     , ⟨_, rfl, fun sl hd hr ho => by
       first | (refine r_lenS (hd 1 _ rfl rfl rfl) rfl TF.sl57 rfl ?_) | (refine r_lenNil (hd 1 _ rfl rfl rfl) TF.sl57 rfl ?_) | (refine r_lenV (hd 1 _ rfl rfl rfl) TF.sl57 rfl ?_)
       exact awl_nil ⟨rfl, post_put⟩⟩⟩
     , ⟨_, rfl, fun sl hd hr ho => by
       refine r_cmp (hd 0 _ rfl rfl rfl) (hd 2 _ rfl rfl rfl) rfl rfl ?_
       exact awl_nil ⟨rfl, post_put⟩⟩⟩
     , ⟨_, rfl, fun sl hd hr ho => by
       refine r_move (hd 3 _ rfl rfl rfl) rfl ?_
       exact awl_nil ⟨rfl, post_put⟩⟩⟩
     , ⟨_, rfl, fun sl hd hr ho => by
       refine g_skip rfl (hd 4 _ rfl rfl rfl) hg35 rfl ?_
       exact awl_nil ⟨rfl, post_put⟩⟩⟩
     , ⟨_, rfl, fun sl hd hr ho => by
       refine g_skip rfl (hd 4 _ rfl rfl rfl) hg35 rfl ?_
       exact awl_nil ⟨rfl, post_put⟩⟩⟩
     , ⟨_, rfl, fun sl hd hr ho => by
       refine g_skip rfl (hd 4 _ rfl rfl rfl) hg35 rfl ?_
       exact awl_nil ⟨rfl, post_put⟩⟩⟩
     , ⟨_, rfl, fun sl hd hr ho => by
       refine g_skip rfl (hd 4 _ rfl rfl rfl) hg35 rfl ?_
       exact awl_nil ⟨rfl, post_put⟩⟩⟩
     , ⟨_, rfl, fun sl hd hr ho => by
       refine g_skip rfl (hd 4 _ rfl rfl rfl) hg35 rfl ?_
       exact awl_nil ⟨rfl, post_put⟩⟩⟩
     , ⟨_, rfl, fun sl hd hr ho => by
       refine g_skip rfl (hd 4 _ rfl rfl rfl) hg35 rfl ?_
       exact awl_nil ⟨rfl, post_put⟩⟩⟩
     , ⟨_, rfl, fun sl hd hr ho => by
       refine g_skip rfl (hd 4 _ rfl rfl rfl) hg35 rfl ?_
       exact awl_nil ⟨rfl, post_put⟩⟩⟩
     , ⟨_, rfl, fun sl hd hr ho => by
       refine g_skip rfl (hd 4 _ rfl rfl rfl) hg35 rfl ?_
       exact awl_nil ⟨rfl, post_put⟩⟩⟩
     , ⟨_, rfl, fun sl hd hr ho => by
       refine g_skip rfl (hd 4 _ rfl rfl rfl) hg35 rfl ?_
       exact awl_nil ⟨rfl, post_put⟩⟩⟩
     (by rfl) ?_
    refine g_skip rfl rfl hg35 rfl ?_
    refine r_pickF rfl hg35 rfl rfl ?_
    refine awl_nil ?_
    refine x_then ?_
    refine awp_condF rfl ?_
    refine awp_skip ?_
    refine x_then ?_
    refine awp_drawS [47, 48, 49, 50, 51, 52, 53, 54, 55, 56, 57, 58, 59, 60, 61] [_, _, _, _, _, _, _, _, _, _, _, _, _, _, _] [[], [], [], [], [47], [], [], [], [], [], [], [47, 51]] [(0, 47), (4, 47), (10, 57), (11, 47)] TF.mixed rfl rfl rfl ⟨⟨⟨⟨⟨⟨⟨⟨⟨⟨⟨⟨⟨⟨⟨trivial
     , ⟨_, rfl, fun sl hd hr ho => by
       refine r_lit 47 (parts := []) rfl TF.sl57 TF.sz9 TF.zraw9 rfl rfl parts_nil rfl rfl rfl rfl ?_
       exact awl_nil ⟨rfl, (post_dem (ho 47 (List.mem_of_elem_eq_true rfl)))⟩⟩⟩
     , ⟨_, rfl, fun sl hd hr ho => by
       refine r_move (hr 3 _ rfl rfl rfl) rfl ?_
       exact awl_nil ⟨rfl, post_put⟩⟩⟩
     , ⟨_, rfl, fun sl hd hr ho => by
       refine r_move (hr 5 _ rfl rfl rfl) rfl ?_
       exact awl_nil ⟨rfl, post_put⟩⟩⟩
     , ⟨_, rfl, fun sl hd hr ho => by
       refine r_sliceH (hd 1 _ rfl rfl rfl) rfl (hd 2 _ rfl rfl rfl) TF.sl57 TF.sz9 (by omega) (by simp; omega) rfl ?_
       exact awl_nil ⟨rfl, post_put⟩⟩⟩
     , ⟨_, rfl, fun sl hd hr ho => by
       refine r_append 47 (hd 0 _ rfl rfl rfl) (by first | exact .own _ | exact .nil) (hd 3 _ rfl rfl rfl) (by first | exact .sl _ | exact .own _ _ | exact .nil) TF.sl57 TF.sz9 (by decide) TF.by9 TF.zlen9 (by simp [chunks] <;> omega) (by simp [chunks] <;> omega) rfl ?_
       exact awl_nil ⟨rfl, (post_dem (ho 47 (List.mem_of_elem_eq_true rfl)))⟩⟩⟩
     , ⟨_, rfl, fun sl hd hr ho => by
       refine r_move (hr 0 _ rfl rfl rfl) rfl ?_
       exact awl_nil ⟨rfl, post_put⟩⟩⟩
     , ⟨_, rfl, fun sl hd hr ho => by
       refine r_move (hr 4 _ rfl rfl rfl) rfl ?_
       exact awl_nil ⟨rfl, post_put⟩⟩⟩
     , ⟨_, rfl, fun sl hd hr ho => by
       refine r_index (hd 5 _ rfl rfl rfl) rfl (hd 6 _ rfl rfl rfl) TF.sl22 TF.sz54 (by omega) (get_map hx) rfl ?_
       exact awl_nil ⟨rfl, post_put⟩⟩⟩
     , ⟨_, rfl, fun sl hd hr ho => by
       first | (refine r_fieldcp (hd 7 _ rfl rfl rfl) TF.f54_0 TF.sz9 rfl ?_) | (refine r_fieldb (hd 7 _ rfl rfl rfl) TF.f54_0 TF.sz9 rfl ?_)
       exact awl_nil ⟨rfl, post_put⟩⟩⟩
     , ⟨_, rfl, fun sl hd hr ho => by
       refine r_load1 (hd 8 _ rfl rfl rfl) TF.agg9 rfl ?_
       exact awl_nil ⟨rfl, post_put⟩⟩⟩
     , ⟨_, rfl, fun sl hd hr ho => by
       refine r_lit 57 (parts := [(0, .tmp 56)]) rfl TF.sl57 TF.sz9 TF.zraw9 rfl rfl (parts_cons (hd 9 _ rfl rfl rfl) parts_nil) rfl rfl rfl rfl ?_
       exact awl_nil ⟨rfl, (post_dem (ho 57 (List.mem_of_elem_eq_true rfl)))⟩⟩⟩
     , ⟨_, rfl, fun sl hd hr ho => by
       refine r_append 47 (hd 4 _ rfl rfl rfl) (by first | exact .own _ | exact .nil) (hd 10 _ rfl rfl rfl) (by first | exact .sl _ | exact .own _ _ | exact .nil) TF.sl57 TF.sz9 (by decide) TF.by9 TF.zlen9 (by simp [chunks] <;> omega) (by simp [chunks] <;> omega) rfl ?_
       exact awl_nil ⟨rfl, (post_dem (ho 47 (List.mem_of_elem_eq_true rfl)))⟩⟩⟩
     , ⟨_, rfl, fun sl hd hr ho => by
       refine r_move (hr 3 _ rfl rfl rfl) rfl ?_
       exact awl_nil ⟨rfl, post_put⟩⟩⟩
     , ⟨_, rfl, fun sl hd hr ho => by
       refine r_move (hr 5 _ rfl rfl rfl) rfl ?_
       exact awl_nil ⟨rfl, post_put⟩⟩⟩
     , ⟨_, rfl, fun sl hd hr ho => by
       refine r_sliceL (hd 12 _ rfl rfl rfl) rfl (hd 13 _ rfl rfl rfl) TF.sl57 TF.sz9 (by omega) (by simp; omega) rfl ?_
       exact awl_nil ⟨rfl, post_put⟩⟩⟩
     (by rfl) ?_
    refine r_append 47 rfl (by first | exact .own _ | exact .nil) rfl (by first | exact .sl _ | exact .own _ _ | exact .nil) TF.sl57 TF.sz9 (by decide) TF.by9 TF.zlen9 (by simp [chunks] <;> omega) (by simp [chunks] <;> omega) rfl ?_
    refine r_assign rfl rfl ?_
    refine awl_nil ?_
    refine x_block ?_
    refine x_then ?_
    refine awp_region ?_
    refine r_move rfl rfl ?_
    refine r_ari _ rfl rfl rfl (wrap_id (by first | omega | (simp; omega))) rfl ?_
    refine r_assign rfl rfl ?_
    refine awl_nil ?_
    refine x_then ?_
    refine ⟨l.length - (i + 1), ⟨64, [(0, .a (files l)), (3, .a (strsA (insS acc x.name))), (4, .a (.v (.int .i64 (((i + 1) : Int)))))], []⟩, ⟨rfl, (Slots.cons rfl (by first | exact .refl _ | exact .nilOwn _ _ | exact .nilSl _ | exact .ownSl _ _ _  | exact SV.le.ownEq (by first | rfl | (rw [hins]; done) | (rw [hins]; rfl) | (rw [hins]; simp [chunks, List.map_take, List.map_drop]; rfl)) | exact SV.le.of_eq (by first | rfl | (rw [hins]; done) | (rw [hins]; rfl) | (rw [hins]; simp [chunks, List.map_take, List.map_drop]; rfl))) (Slots.cons rfl (by first | exact .refl _ | exact .nilOwn _ _ | exact .nilSl _ | exact .ownSl _ _ _  | exact SV.le.ownEq (by first | rfl | (rw [hins]; done) | (rw [hins]; rfl) | (rw [hins]; simp [chunks, List.map_take, List.map_drop]; rfl)) | exact SV.le.of_eq (by first | rfl | (rw [hins]; done) | (rw [hins]; rfl) | (rw [hins]; simp [chunks, List.map_take, List.map_drop]; rfl))) (Slots.cons rfl (by first | exact .refl _ | exact .nilOwn _ _ | exact .nilSl _ | exact .ownSl _ _ _  | exact SV.le.ownEq (by first | rfl | (rw [hins]; done) | (rw [hins]; rfl) | (rw [hins]; simp [chunks, List.map_take, List.map_drop]; rfl)) | exact SV.le.of_eq (by first | rfl | (rw [hins]; done) | (rw [hins]; rfl) | (rw [hins]; simp [chunks, List.map_take, List.map_drop]; rfl))) Slots.nil))), (by first | exact List.Sublist.refl _ | exact .cons_cons _ (.cons _ (.refl _)) | exact List.nil_sublist _ | exact .cons _ (.refl _) | exact .cons _ (.cons _ (.refl _)) | exact .cons _ (.cons _ (.cons _ (.refl _))) | exact .cons _ (.cons _ (.cons _ (.cons _ (.refl _)))) | exact .cons_cons _ (List.nil_sublist _))⟩, (by omega), ⟨i + 1, insS acc x.name, rfl, rfl, (by omega), (names_step hx hacc), (by have := insS_len (n := x.name) (l := acc); omega)⟩⟩
 ·
  have hgei : l.length ≤ i := by have := of_decide_eq_false hc0; simp at this; omega
  rw [List.take_of_length_le hgei] at hacc
  refine awp_exit ?_
  refine x_thenE ?_
  refine x_thenE ?_
  refine x_blockE ?_
  refine x_then ?_
  refine awp_seq ?_
  refine awp_region ?_
  refine r_move rfl rfl ?_
  refine r_assign rfl rfl ?_
  refine awl_nil ?_
  refine x_then ?_
  refine awp_ret ?_
  exact ⟨(.inl rfl), _, [], (.one (by first | exact .mk rfl rfl | exact .nil rfl)), ⟨rfl, by rw [hacc]; rfl⟩, (List.nil_sublist _), (by simp)⟩
theorem rclean_ok (l : List File) (hl : l.length ≤ 1000) : AC Try.prog 21 [files l] [] (fun r n => n = [] ∧ r = files (cleanS l)) := by
 refine ac_of_awp (rs := [2]) (nt := 28) Try.func21 rfl rfl rfl rfl (fun w0 C0 hq => ?_)
 refine awp_seq ?_
 refine awp_region ?_
 refine r_assign rfl rfl ?_
 refine awl_nil ?_
 refine x_then ?_
 refine awp_seq ?_
 refine awp_region ?_
 refine r_lit 6 (parts := []) rfl TF.sl22 TF.sz54 TF.zraw54 rfl rfl rfl rfl rfl rfl rfl ?_
 refine r_assign rfl rfl ?_
 refine awl_nil ?_
 refine x_then ?_
 refine awp_seq ?_
 refine awp_region ?_
 refine r_move rfl rfl ?_
 refine r_call0 hq rfl rfl (.cons (.ev rfl rfl) .nil) (rnames_ok l hl) rfl TF.en38 rfl (fun r hr => ?_)
 obtain rfl := hr
 obtain ⟨ns, hns⟩ : ∃ ns, ns = namesF l := ⟨_, rfl⟩
 rw [← hns]
 have hnl : ns.length ≤ 1000 := by rw [hns]; have := names_len l; omega
 refine r_assign rfl rfl ?_
 refine awl_nil ?_
 refine x_then ?_
 refine awp_seq ?_
 refine awp_seq ?_
 refine awp_region ?_
 refine r_assign rfl rfl ?_
 refine awl_nil ?_
 refine x_then ?_
 refine awp_block ?_
 refine awp_loop (fun nn0 S => ∃ k : Nat, S = ⟨28, [(0, .a (files l)), (3, .own 6 2 (((ns.take k).map (fun s : ByteArray => (⟨s, (lookF l s).getD []⟩ : File))).map File.cs)), (4, .a (strsA ns)), (5, .a (.v (.int .i64 ((k : Int)))))], []⟩ ∧ nn0 = ns.length - k ∧ (k ≤ ns.length)) (ns.length - (0)) ⟨28, [(0, .a (files l)), (3, .own 6 2 (((ns.take (0)).map (fun s : ByteArray => (⟨s, (lookF l s).getD []⟩ : File))).map File.cs)), (4, .a (strsA ns)), (5, .a (.v (.int .i64 (((0) : Int)))))], []⟩ ⟨rfl, (Slots.cons rfl (by first | exact .refl _ | exact .nilOwn _ _ | exact .nilSl _ | exact .ownSl _ _ _  | exact SV.le.of_eq (by simp)) (Slots.cons rfl (by first | exact .refl _ | exact .nilOwn _ _ | exact .nilSl _ | exact .ownSl _ _ _  | exact SV.le.of_eq (by simp)) (Slots.cons rfl (by first | exact .refl _ | exact .nilOwn _ _ | exact .nilSl _ | exact .ownSl _ _ _  | exact SV.le.of_eq (by simp)) (Slots.cons rfl (by first | exact .refl _ | exact .nilOwn _ _ | exact .nilSl _ | exact .ownSl _ _ _  | exact SV.le.of_eq (by simp)) Slots.nil)))), (by first | exact List.Sublist.refl _ | exact .cons_cons _ (.cons _ (.refl _)) | exact List.nil_sublist _ | exact .cons _ (.refl _) | exact .cons _ (.cons _ (.refl _)) | exact .cons _ (.cons _ (.cons _ (.refl _))) | exact .cons _ (.cons _ (.cons _ (.cons _ (.refl _)))) | exact .cons_cons _ (List.nil_sublist _))⟩ ⟨0, rfl, rfl, Nat.zero_le _⟩ ?_
 rintro nn0 _ ⟨k, rfl, rfl, hk⟩
 refine awp_seq ?_
 refine awp_seq ?_
 refine awp_region ?_
 refine r_move rfl rfl ?_
 refine r_move rfl rfl ?_
 first | (refine r_lenS rfl rfl TF.sl57 rfl ?_) | (refine r_lenNil rfl TF.sl57 rfl ?_) | (refine r_lenV rfl TF.sl57 rfl ?_)
 refine r_cmp rfl rfl rfl rfl ?_
 refine awl_nil ?_
 refine x_then ?_
 refine awp_cond rfl (fun hc0 => ?_) (fun hc0 => ?_)
 ·
  have hltx : k < ns.length := by have := of_decide_eq_true hc0; simpa using this
  obtain ⟨x, hx⟩ := get_lt hltx
  obtain ⟨i, y, hfi, hyi, hye⟩ := find_look (show x ∈ namesF l from hns ▸ List.mem_of_getElem? hx)
  refine awp_skip ?_
  refine x_then ?_
  refine awp_seq ?_
  refine awp_block ?_
  refine awp_region ?_
  refine r_move rfl rfl ?_
  refine r_move rfl rfl ?_
  refine r_move rfl rfl ?_
  refine r_move rfl rfl ?_
  refine r_move rfl rfl ?_
  refine r_index rfl rfl rfl TF.sl57 TF.sz9 (by omega) (get_map hx) rfl ?_
  refine r_load1 rfl TF.agg9 rfl ?_
  refine r_call0 hq rfl rfl (.cons (.ev rfl rfl) (.cons (.ev rfl rfl) .nil)) (find_ok l x (by omega)) rfl TF.en33 rfl (fun r hr => ?_)
  obtain rfl := hr
  rw [hfi]
  refine r_index rfl rfl rfl TF.sl22 TF.sz54 (by simp [optI]) (get_map hyi) rfl ?_
  refine r_loadA rfl TF.agg54 TF.sz54 rfl rfl ?_
  refine r_lit 25 (parts := [(0, .tmp 24)]) rfl TF.sl22 TF.sz54 TF.zraw54 rfl rfl rfl rfl rfl rfl rfl ?_
  refine r_append 6 rfl (by first | exact .own _ | exact .nil) rfl (by first | exact .sl _ | exact .own _ _ | exact .nil) TF.sl22 TF.sz54 (by decide) TF.by54 TF.zlen54 (by simp [chunks] <;> omega) (by simp [chunks] <;> omega) rfl ?_
  refine r_assign rfl rfl ?_
  refine awl_nil ?_
  refine x_block ?_
  refine x_then ?_
  refine awp_region ?_
  refine r_move rfl rfl ?_
  refine r_ari _ rfl rfl rfl (wrap_id (by first | omega | (simp; omega))) rfl ?_
  refine r_assign rfl rfl ?_
  refine awl_nil ?_
  refine x_then ?_
  refine ⟨ns.length - (k + 1), ⟨28, [(0, .a (files l)), (3, .own 6 2 (((ns.take (k + 1)).map (fun s : ByteArray => (⟨s, (lookF l s).getD []⟩ : File))).map File.cs)), (4, .a (strsA ns)), (5, .a (.v (.int .i64 (((k + 1) : Int)))))], []⟩, ⟨rfl, (Slots.cons rfl (by first | exact .refl _ | exact .nilOwn _ _ | exact .nilSl _ | exact .ownSl _ _ _  | exact SV.le.ownEq (by first | rfl | (rw [map_take hx, List.map_append, ← hye]; rfl)) | exact SV.le.of_eq (by first | rfl | (rw [map_take hx, List.map_append, ← hye]; rfl))) (Slots.cons rfl (by first | exact .refl _ | exact .nilOwn _ _ | exact .nilSl _ | exact .ownSl _ _ _  | exact SV.le.ownEq (by first | rfl | (rw [map_take hx, List.map_append, ← hye]; rfl)) | exact SV.le.of_eq (by first | rfl | (rw [map_take hx, List.map_append, ← hye]; rfl))) (Slots.cons rfl (by first | exact .refl _ | exact .nilOwn _ _ | exact .nilSl _ | exact .ownSl _ _ _  | exact SV.le.ownEq (by first | rfl | (rw [map_take hx, List.map_append, ← hye]; rfl)) | exact SV.le.of_eq (by first | rfl | (rw [map_take hx, List.map_append, ← hye]; rfl))) (Slots.cons rfl (by first | exact .refl _ | exact .nilOwn _ _ | exact .nilSl _ | exact .ownSl _ _ _  | exact SV.le.ownEq (by first | rfl | (rw [map_take hx, List.map_append, ← hye]; rfl)) | exact SV.le.of_eq (by first | rfl | (rw [map_take hx, List.map_append, ← hye]; rfl))) Slots.nil)))), (by first | exact List.Sublist.refl _ | exact .cons_cons _ (.cons _ (.refl _)) | exact List.nil_sublist _ | exact .cons _ (.refl _) | exact .cons _ (.cons _ (.refl _)) | exact .cons _ (.cons _ (.cons _ (.refl _))) | exact .cons _ (.cons _ (.cons _ (.cons _ (.refl _)))) | exact .cons_cons _ (List.nil_sublist _))⟩, (by omega), ⟨k + 1, rfl, rfl, (by omega)⟩⟩
 ·
  have hge : ns.length ≤ k := by have := of_decide_eq_false hc0; simp at this; omega
  have hkl : ns.take k = ns := List.take_of_length_le hge
  refine awp_exit ?_
  refine x_thenE ?_
  refine x_thenE ?_
  refine x_blockE ?_
  refine x_then ?_
  refine awp_seq ?_
  refine awp_region ?_
  refine r_move rfl rfl ?_
  refine r_assign rfl rfl ?_
  refine awl_nil ?_
  refine x_then ?_
  refine awp_ret ?_
  exact ⟨(.inl rfl), _, [], (.one (by first | exact .mk rfl rfl | exact .nil rfl)), ⟨rfl, by rw [hkl, hns]; rfl⟩, (List.nil_sublist _), (by simp)⟩
theorem applyOf_ok (a b : List File) (hla : a.length ≤ 1000) (hlb : b.length ≤ 1000) (hna : ∀ f ∈ a, f.name.size ≤ 1000000) (hnb : ∀ f ∈ b, f.name.size ≤ 1000000) (hda : ∀ f ∈ a, f.data.length ≤ 1000000) (hdb : ∀ f ∈ b, f.data.length ≤ 1000000) : AC Try.prog 16 [files a, fcsA (OfF a b)] [] (fun r n => n = [] ∧ r = .tup [files (cleanS b), .v (.int .i64 0)]) := by
  have hl := of_len a b
  refine (apply_ok a (OfF a b) hla (by omega) hna hda (of_bound hna hnb hdb)).mono fun r n h => ?_
  obtain ⟨m, h1, h2, h3, h4⟩ := apply_clean a b
  obtain ⟨rfl, ⟨m', k1, k2, rfl⟩ | ⟨e, m', k1, k2, rfl⟩⟩ := h
  · rw [h1] at k1; cases k1; exact ⟨rfl, by rw [h4]⟩
  · rw [h1] at k1; cases k1; exact absurd rfl k2
theorem aw_of : OfF [⟨⟨#[97]⟩, [120]⟩, ⟨⟨#[98]⟩, [121]⟩] [⟨⟨#[99]⟩, [120]⟩, ⟨⟨#[98]⟩, [122]⟩] = [⟨4, ⟨#[97]⟩, ⟨#[99]⟩, []⟩, ⟨3, ⟨#[98]⟩, E0, [122]⟩] := by kernel_rfl
theorem aw_clean : cleanS [⟨⟨#[99]⟩, [120]⟩, ⟨⟨#[98]⟩, [122]⟩] = [⟨⟨#[98]⟩, [122]⟩, ⟨⟨#[99]⟩, [120]⟩] := by kernel_rfl
theorem aw_right : rightF [⟨4, ⟨#[97]⟩, ⟨#[99]⟩, []⟩, ⟨3, ⟨#[98]⟩, E0, [122]⟩] = true := by kernel_rfl
set_option maxHeartbeats 1000000 in
theorem awake_okF (hTH : (PTC || THC) = false) : AC Try.prog 9 [] [] (fun r n => n = [] ∧ r = boolA true) := by
 refine ac_of_awp (rs := [0]) (nt := 106) Try.func9 rfl rfl rfl rfl (fun w0 C0 hq => ?_)
 refine awp_seq ?_
 refine awp_region ?_
 refine r_assign rfl rfl ?_
 refine awl_nil ?_
 refine x_then ?_
 refine awp_seq ?_
 refine awp_region ?_
 refine r_lit 6 (parts := [(0, .const ((Go.Value.int Go.IntKind.u8 120)))]) rfl TF.sl34 TF.sz5 TF.zraw5 rfl rfl rfl rfl rfl rfl rfl ?_
 refine r_convBB hq hTH 6 rfl (by simp [chunks]) TF.sl34 TF.un5 rfl ?_
 refine r_build (parts := [(0, .const ((Go.Value.string { data := #[97] }))), (1, .tmp 7)]) rfl TF.pl48 TF.zero48 rfl rfl rfl ?_
 refine r_lit 9 (parts := [(0, .const ((Go.Value.int Go.IntKind.u8 121)))]) rfl TF.sl34 TF.sz5 TF.zraw5 rfl rfl rfl rfl rfl rfl rfl ?_
 refine r_convBB hq hTH 9 rfl (by simp [chunks]) TF.sl34 TF.un5 rfl ?_
 refine r_build (parts := [(0, .const ((Go.Value.string { data := #[98] }))), (1, .tmp 10)]) rfl TF.pl48 TF.zero48 rfl rfl rfl ?_
 refine r_lit 12 (parts := [(0, .tmp 8), (1, .tmp 11)]) rfl TF.sl25 TF.sz48 TF.zraw48 rfl rfl rfl rfl rfl rfl rfl ?_
 refine r_assign rfl rfl ?_
 refine awl_nil ?_
 refine x_then ?_
 refine awp_seq ?_
 refine awp_region ?_
 refine r_lit 13 (parts := [(0, .const ((Go.Value.int Go.IntKind.u8 120)))]) rfl TF.sl34 TF.sz5 TF.zraw5 rfl rfl rfl rfl rfl rfl rfl ?_
 refine r_convBB hq hTH 13 rfl (by simp [chunks]) TF.sl34 TF.un5 rfl ?_
 refine r_build (parts := [(0, .const ((Go.Value.string { data := #[99] }))), (1, .tmp 14)]) rfl TF.pl48 TF.zero48 rfl rfl rfl ?_
 refine r_lit 16 (parts := [(0, .const ((Go.Value.int Go.IntKind.u8 122)))]) rfl TF.sl34 TF.sz5 TF.zraw5 rfl rfl rfl rfl rfl rfl rfl ?_
 refine r_convBB hq hTH 16 rfl (by simp [chunks]) TF.sl34 TF.un5 rfl ?_
 refine r_build (parts := [(0, .const ((Go.Value.string { data := #[98] }))), (1, .tmp 17)]) rfl TF.pl48 TF.zero48 rfl rfl rfl ?_
 refine r_lit 19 (parts := [(0, .tmp 15), (1, .tmp 18)]) rfl TF.sl25 TF.sz48 TF.zraw48 rfl rfl rfl rfl rfl rfl rfl ?_
 refine r_assign rfl rfl ?_
 refine awl_nil ?_
 refine x_then ?_
 refine awp_seq ?_
 refine awp_region ?_
 refine r_move rfl rfl ?_
 refine r_move rfl rfl ?_
 refine r_call0 hq rfl rfl (.cons (.ev rfl rfl) (.cons (.ev rfl rfl) .nil)) (of_ok [⟨⟨#[97]⟩, [120]⟩, ⟨⟨#[98]⟩, [121]⟩] [⟨⟨#[99]⟩, [120]⟩, ⟨⟨#[98]⟩, [122]⟩] (by simp) (by simp) (by decide) (by decide) (by decide) (by decide)) rfl TF.en13 rfl (fun r hr => ?_)
 obtain rfl := hr
 refine r_assign rfl rfl ?_
 refine awl_nil ?_
 refine x_then ?_
 refine awp_seq ?_
 refine awp_region ?_
 refine r_move rfl rfl ?_
 refine r_move rfl rfl ?_
 refine r_call0 hq rfl rfl (.cons (.ev rfl rfl) (.cons (.ev rfl rfl) .nil)) (applyOf_ok [⟨⟨#[97]⟩, [120]⟩, ⟨⟨#[98]⟩, [121]⟩] [⟨⟨#[99]⟩, [120]⟩, ⟨⟨#[98]⟩, [122]⟩] (by simp) (by simp) (by decide) (by decide) (by decide) (by decide)) rfl TF.en16 rfl (fun r hr => ?_)
 obtain rfl := hr
 rw [aw_clean, aw_of]
 refine r_move rfl rfl ?_
 refine r_extract rfl rfl rfl ?_
 refine r_extract rfl rfl rfl ?_
 refine r_assign rfl rfl ?_
 refine r_assign rfl rfl ?_
 refine awl_nil ?_
 refine x_then ?_
 refine awp_seq ?_
 refine awp_region ?_
 refine r_move rfl rfl ?_
 first | (refine r_lenS rfl rfl TF.sl28 rfl ?_) | (refine r_lenNil rfl TF.sl28 rfl ?_) | (refine r_lenV rfl TF.sl28 rfl ?_)
 refine r_cmp rfl rfl rfl rfl ?_
 refine r_move rfl rfl ?_
 refine g_run rfl rfl rfl ?_
 refine r_move rfl rfl ?_
 refine g_run rfl rfl rfl ?_
 refine r_index rfl rfl rfl TF.sl28 TF.sz50 (by decide) rfl rfl ?_
 refine g_run rfl rfl rfl ?_
 first | (refine r_fieldcp rfl TF.f50_0 TF.sz3 rfl ?_) | (refine r_fieldb rfl TF.f50_0 TF.sz3 rfl ?_)
 refine g_run rfl rfl rfl ?_
 refine r_load1 rfl TF.agg3 rfl ?_
 refine g_run rfl rfl rfl ?_
 refine r_cmp rfl rfl rfl rfl ?_
 refine r_pickT rfl rfl rfl rfl ?_
 refine r_move rfl rfl ?_
 refine g_run rfl rfl rfl ?_
 refine r_move rfl rfl ?_
 refine g_run rfl rfl rfl ?_
 refine r_index rfl rfl rfl TF.sl28 TF.sz50 (by decide) rfl rfl ?_
 refine g_run rfl rfl rfl ?_
 first | (refine r_fieldcp rfl TF.f50_1 TF.sz9 rfl ?_) | (refine r_fieldb rfl TF.f50_1 TF.sz9 rfl ?_)
 refine g_run rfl rfl rfl ?_
 refine r_load1 rfl TF.agg9 rfl ?_
 refine g_run rfl rfl rfl ?_
 refine r_str2 rfl rfl rfl rfl ?_
 refine r_pickT rfl rfl rfl rfl ?_
 refine r_move rfl rfl ?_
 refine g_run rfl rfl rfl ?_
 refine r_move rfl rfl ?_
 refine g_run rfl rfl rfl ?_
 refine r_index rfl rfl rfl TF.sl28 TF.sz50 (by decide) rfl rfl ?_
 refine g_run rfl rfl rfl ?_
 first | (refine r_fieldcp rfl TF.f50_2 TF.sz9 rfl ?_) | (refine r_fieldb rfl TF.f50_2 TF.sz9 rfl ?_)
 refine g_run rfl rfl rfl ?_
 refine r_load1 rfl TF.agg9 rfl ?_
 refine g_run rfl rfl rfl ?_
 refine r_str2 rfl rfl rfl rfl ?_
 refine r_pickT rfl rfl rfl rfl ?_
 refine r_move rfl rfl ?_
 refine g_run rfl rfl rfl ?_
 refine r_move rfl rfl ?_
 refine g_run rfl rfl rfl ?_
 refine r_index rfl rfl rfl TF.sl28 TF.sz50 (by decide) rfl rfl ?_
 refine g_run rfl rfl rfl ?_
 first | (refine r_fieldcp rfl TF.f50_0 TF.sz3 rfl ?_) | (refine r_fieldb rfl TF.f50_0 TF.sz3 rfl ?_)
 refine g_run rfl rfl rfl ?_
 refine r_load1 rfl TF.agg3 rfl ?_
 refine g_run rfl rfl rfl ?_
 refine r_cmp rfl rfl rfl rfl ?_
 refine r_pickT rfl rfl rfl rfl ?_
 refine r_move rfl rfl ?_
 refine g_run rfl rfl rfl ?_
 refine r_move rfl rfl ?_
 refine g_run rfl rfl rfl ?_
 refine r_index rfl rfl rfl TF.sl28 TF.sz50 (by decide) rfl rfl ?_
 refine g_run rfl rfl rfl ?_
 first | (refine r_fieldcp rfl TF.f50_1 TF.sz9 rfl ?_) | (refine r_fieldb rfl TF.f50_1 TF.sz9 rfl ?_)
 refine g_run rfl rfl rfl ?_
 refine r_load1 rfl TF.agg9 rfl ?_
 refine g_run rfl rfl rfl ?_
 refine r_str2 rfl rfl rfl rfl ?_
 refine r_pickT rfl rfl rfl rfl ?_
 refine r_move rfl rfl ?_
 refine g_run rfl rfl rfl ?_
 refine r_move rfl rfl ?_
 refine g_run rfl rfl rfl ?_
 refine r_index rfl rfl rfl TF.sl28 TF.sz50 (by decide) rfl rfl ?_
 refine g_run rfl rfl rfl ?_
 first | (refine r_fieldcp rfl TF.f50_3 TF.sz34 rfl ?_) | (refine r_fieldb rfl TF.f50_3 TF.sz34 rfl ?_)
 refine g_run rfl rfl rfl ?_
 refine r_load1 rfl TF.agg34 rfl ?_
 refine g_run rfl rfl rfl ?_
 refine r_convBS [122] rfl rfl TF.sl34 TF.un5 TF.un9 rfl ?_
 refine g_run rfl rfl rfl ?_
 refine r_str2 rfl rfl rfl rfl ?_
 refine r_pickT rfl rfl rfl rfl ?_
 refine r_move rfl rfl ?_
 refine g_run rfl rfl rfl ?_
 refine r_move rfl rfl ?_
 refine g_run rfl rfl rfl ?_
 refine r_cmp rfl rfl rfl rfl ?_
 refine r_pickT rfl rfl rfl rfl ?_
 refine r_move rfl rfl ?_
 refine g_run rfl rfl rfl ?_
 refine r_move rfl rfl ?_
 refine g_run rfl rfl rfl ?_
 first | (refine r_lenS rfl rfl TF.sl25 rfl ?_) | (refine r_lenNil rfl TF.sl25 rfl ?_) | (refine r_lenV rfl TF.sl25 rfl ?_)
 refine g_run rfl rfl rfl ?_
 refine r_cmp rfl rfl rfl rfl ?_
 refine r_pickT rfl rfl rfl rfl ?_
 refine r_move rfl rfl ?_
 refine g_run rfl rfl rfl ?_
 refine r_move rfl rfl ?_
 refine g_run rfl rfl rfl ?_
 refine r_index rfl rfl rfl TF.sl25 TF.sz48 (by decide) rfl rfl ?_
 refine g_run rfl rfl rfl ?_
 first | (refine r_fieldcp rfl TF.f48_0 TF.sz9 rfl ?_) | (refine r_fieldb rfl TF.f48_0 TF.sz9 rfl ?_)
 refine g_run rfl rfl rfl ?_
 refine r_load1 rfl TF.agg9 rfl ?_
 refine g_run rfl rfl rfl ?_
 refine r_str2 rfl rfl rfl rfl ?_
 refine r_pickT rfl rfl rfl rfl ?_
 refine r_move rfl rfl ?_
 refine g_run rfl rfl rfl ?_
 refine r_move rfl rfl ?_
 refine g_run rfl rfl rfl ?_
 refine r_index rfl rfl rfl TF.sl25 TF.sz48 (by decide) rfl rfl ?_
 refine g_run rfl rfl rfl ?_
 first | (refine r_fieldcp rfl TF.f48_0 TF.sz9 rfl ?_) | (refine r_fieldb rfl TF.f48_0 TF.sz9 rfl ?_)
 refine g_run rfl rfl rfl ?_
 refine r_load1 rfl TF.agg9 rfl ?_
 refine g_run rfl rfl rfl ?_
 refine r_str2 rfl rfl rfl rfl ?_
 refine r_pickT rfl rfl rfl rfl ?_
 refine r_move rfl rfl ?_
 refine g_run rfl rfl rfl ?_
 refine r_move rfl rfl ?_
 refine g_run rfl rfl rfl ?_
 refine r_call0 hq rfl rfl (.cons (.ev rfl rfl) .nil) (right_ok [⟨4, ⟨#[97]⟩, ⟨#[99]⟩, []⟩, ⟨3, ⟨#[98]⟩, E0, [122]⟩] (by simp)) rfl TF.en19 rfl (fun r hr => ?_)
 obtain rfl := hr
 rw [aw_right]
 refine r_pickT rfl rfl rfl rfl ?_
 refine r_move rfl rfl ?_
 first | refine r_pickT rfl (by first | rfl | assumption) rfl rfl ?_ | refine r_pickF rfl (by first | rfl | assumption) rfl rfl ?_
 refine r_move rfl rfl ?_
 first | refine r_pickT rfl (by first | rfl | assumption) rfl rfl ?_ | refine r_pickF rfl (by first | rfl | assumption) rfl rfl ?_
 refine r_assign rfl rfl ?_
 refine awl_nil ?_
 refine x_then ?_
 refine awp_ret ?_
 exact ⟨(.inl rfl), _, [], (.one (by first | exact .mk rfl rfl | exact .nil rfl)), ⟨rfl, rfl⟩, (List.nil_sublist _), (by simp)⟩
theorem AC.ofOff {P : Program} {f : FuncId} {x : Value} (h : @AC ⟨0, false⟩ P f [] [] (fun r n => n = [] ∧ r = .v x)) : AC P f [] [] (fun r n => n = [] ∧ r = .v x) := by
  intro C w vals hcom hrels hobjs
  refine (h C w vals ⟨fun b o v hc => @CellOk.mk ⟨0, false⟩ w b o v (hcom.1 b o v hc).cell (fun h1 _ => absurd h1 (by decide)), hcom.2⟩ hrels ⟨by simp, by simp⟩).mono ?_
  · rintro e w' ⟨v, C', r, nobjs, rfl, ⟨rfl, rfl⟩, hb, hC, hcom', hrel, hn, hnb⟩
    have hlt : ∀ b o v, C b o = some v → b < w.heap.size := fun b o v hc => by have := World.block_lt_of_cell? w _ (hcom.1 _ _ _ hc).cell; simpa using this
    refine ⟨v, C, _, [], rfl, ⟨rfl, rfl⟩, hb, fun _ _ _ => rfl, ⟨fun b o v hc => (hcom.1 b o v hc).keep (hb.block b (hlt b o v hc)), hcom.2⟩, ?_, ⟨by simp, by simp⟩, by simp⟩
    cases hrel; exact .v _
theorem awake_ok : AC Try.prog 9 [] [] (fun r n => n = [] ∧ r = boolA true) := AC.ofOff (@awake_okF ⟨0, false⟩ rfl)
end Go.Proofs.Ytnbnegkdbjdekaa.A
namespace Go.Proofs.Ytnbnegkdbjdekaa.A
open Go Go.RowKit
set_option linter.unusedSectionVars false
variable [Thr]
set_option linter.unusedVariables false
set_option linter.unusedSimpArgs false
set_option linter.unusedSectionVars false
variable {P : Program} {w0 : Base} {C0 C : CS} {T : TS} {S S' : AState} {a : Act} {w : World} {ops : Array Oper} {rest : List Oper} {o : Oper} {Q : Exit → AState → Prop}
variable {t : Nat} {ty : TypeId} {pos : String} {aft : Array Edge}
theorem made_one (z : Value) (n : Nat) : (madeCells #[z] n).toList = List.replicate n z := by
  unfold madeCells
  rw [Array.toList_map, Array.toList_range]
  apply List.ext_getElem?
  intro i
  rw [List.getElem?_map]
  by_cases h : i < n
  · rw [List.getElem?_range h]
    simp [h, Nat.mod_one]
  · rw [List.getElem?_eq_none (by simpa using h), List.getElem?_eq_none (by simpa using h)]; rfl
theorem r_makeSlice {st e bytes : Nat} {zv : Value} {x y : Operand} {k k' : IntKind} {n : Nat} (hx : S.ev x = some (.a (.v (.int k (n : Int))))) (hy : S.ev y = some (.a (.v (.int k' (n : Int))))) (hst : sliceT P st = some e) (hsz : szT P e = some 1) (hby : bytesT P e = some bytes) (hz : zeroT P e = some [zv])
    (hb : bytes * n ≤ 281474976710656) (hn : n ≤ 1000000000) (ht : Nat.blt t S.nt = true)
    (hr : ∀ b, AWL P w0 C0 ops rest Q (AState.put ⟨S.nt, S.slots, ⟨b, true, .box (List.replicate n (.v zv))⟩ :: S.objs⟩ t (.a (.v (.slice (some ⟨b, 0, none⟩) n n))))) :
    AWL P w0 C0 ops (⟨some t, .makeSlice st x y, ty, pos, aft, none⟩ :: rest) Q S := by
  rintro a w ⟨C, T, hs⟩
  unfold szT at hsz
  unfold bytesT at hby
  unfold zeroT at hz
  cases hi : P.info? e with
  | none => rw [hi] at hsz; cases hsz
  | some i =>
    rw [hi] at hsz hby hz
    simp only [Option.map_some, Option.some.injEq, Option.bind_some] at hsz hby hz
    cases hiz : i.zero with
    | none => rw [hiz] at hz; cases hz
    | some z =>
      rw [hiz] at hz
      simp only [Option.map_some, Option.some.injEq] at hz
      have hzc : z.cells = #[zv] := by apply Array.ext'; simpa using hz
      have hbi : (i.bytes : Int) * (n : Int) ≤ 281474976710656 := by
        rw [hby]
        have : ((bytes * n : Nat) : Int) ≤ 281474976710656 := by omega
        rwa [Int.natCast_mul] at this
      have hrun := run_make (P := P) w st e i z (sliceT_un hst) hi hiz k k' (n : Int) (n : Int) (by omega) (Int.le_refl _) hbi (by omega)
      rw [hzc, hsz, Nat.mul_one] at hrun
      simp only [Int.toNat_natCast] at hrun
      refine wpList_plain rfl (fun K hK => ?_)
      unfold Oper.wp
      have hex : (execOp a.eval ⟨some t, .makeSlice st x y, ty, pos, aft, none⟩).run P w = .ok (.value (.slice (some ⟨w.heap.size, 0, none⟩) n n)) (w.alloc (.cells (madeCells #[zv] n) e)) := by
        simp [execOp, Sem.run_bind, hs.evv hx, hs.evv hy, hrun]
      rw [hex]
      have hs' := hs.newObj (.cells (madeCells #[zv] n) e) (o := .box (List.replicate n (.v zv))) ⟨_, e, heap_alloc_at _ _, by
        rw [made_one]
        have := rels_vs (C := C) (List.replicate n zv)
        rwa [List.map_replicate] at this⟩
      exact hK _ _ (hr w.heap.size _ _ ⟨C, T, hs'.put ht (srel_v _)⟩)
def noU8 : Value → Bool
  | .int .u8 _ => false
  | _ => true
end Go.Proofs.Ytnbnegkdbjdekaa.A
namespace Go.Proofs.Ytnbnegkdbjdekaa.A
open Go Go.RowKit Go.Maps Go.Sort
set_option linter.unusedSectionVars false
variable [Thr]
set_option linter.unusedVariables false
set_option linter.unusedSimpArgs false
def fA (a : List File) (s : ByteArray) : File := ⟨s, (lookF a s).getD []⟩
theorem clean_map (a : List File) : cleanS a = (namesF a).map (fA a) := rfl
def onlyS (a b : List File) : List File := (wentF a b).map (fA a)
theorem find_none_look {b : List File} {s : ByteArray} (h : b.findIdx? (fun f => decide (f.name = s)) = none) : lookF b s = none := by
  unfold lookF
  rw [List.findIdx?_eq_none_iff] at h
  rw [List.find?_eq_none.2 (fun f hf => by simpa using h f hf)]; rfl
theorem find_some_look {b : List File} {s : ByteArray} {i : Nat} (h : b.findIdx? (fun f => decide (f.name = s)) = some i) : ∃ y, b[i]? = some y ∧ y.name = s ∧ lookF b s = some y.data := by
  obtain ⟨y, hy, hp⟩ := fidx_get h
  have hn : y.name = s := by simpa using hp
  have hm : s ∈ namesF b := (namesF_mem s b []).2 (.inr ⟨y, List.mem_of_getElem? hy, hn⟩)
  obtain ⟨i', y', h1, h2, h3⟩ := find_look hm
  rw [h] at h1; cases h1
  rw [hy] at h2; cases h2
  refine ⟨y, hy, hn, ?_⟩
  obtain ⟨d, hd⟩ := Option.isSome_iff_exists.1 (names_in.1 hm)
  rw [hd, h3, hd]; rfl
def lackB (b : List File) (f : File) : Bool := !(lookF b f.name).isSome
theorem only_filter (a b : List File) : (cleanS a).filter (lackB b) = onlyS a b := by
  unfold onlyS wentF
  rw [clean_map, List.filter_map]
  rfl
theorem filtS_take {α : Type} {p : α → Bool} {l : List α} {k : Nat} {x : α} (h : l[k]? = some x) : (l.take (k + 1)).filter p = (l.take k).filter p ++ (if p x = true then [x] else []) := by
  rw [takeS h, List.filter_append]
  by_cases hp : p x = true <;> simp [hp]
def keepB : List ByteArray → List Bool → List ByteArray
  | x :: K, t :: ts => cond t (keepB K ts) (x :: keepB K ts)
  | _, _ => []
def hitZ (p : ByteArray → Bool) (q : ByteArray × Bool) : Bool := !q.2 && p q.1
theorem keep_none {p : ByteArray → Bool} : ∀ {K : List ByteArray} {ts : List Bool}, (K.zip ts).findIdx? (hitZ p) = none → (keepB K ts).findIdx? p = none
  | [], _, _ => rfl
  | _ :: _, [], _ => rfl
  | x :: K, t :: ts, h => by
    rw [List.zip_cons_cons, List.findIdx?_cons] at h
    cases t with
    | true =>
      have h' : (K.zip ts).findIdx? (hitZ p) = none := by simpa [hitZ] using h
      have h2 := keep_none (K := K) (ts := ts) h'
      exact h2
    | false =>
      cases hp : p x with
      | true => simp [hitZ, hp] at h
      | false =>
        have h' : (K.zip ts).findIdx? (hitZ p) = none := by simpa [hitZ, hp] using h
        simp [keepB, List.findIdx?_cons, hp, keep_none h']
theorem keep_some {p : ByteArray → Bool} : ∀ {K : List ByteArray} {ts : List Bool} {k : Nat}, (K.zip ts).findIdx? (hitZ p) = some k →
    ∃ i x, (keepB K ts).findIdx? p = some i ∧ (keepB K ts)[i]? = some x ∧ K[k]? = some x ∧ keepB K (ts.set k true) = (keepB K ts).eraseIdx i
  | [], _, _, h => by simp at h
  | _ :: _, [], _, h => by simp at h
  | x :: K, t :: ts, k, h => by
    rw [List.zip_cons_cons, List.findIdx?_cons] at h
    cases t with
    | true =>
      simp [hitZ] at h
      obtain ⟨k', hk', rfl⟩ := h
      obtain ⟨i, y, h1, h2, h3, h4⟩ := keep_some (p := p) hk'
      exact ⟨i, y, h1, h2, h3, h4⟩
    | false =>
      cases hp : p x with
      | true =>
        simp [hitZ, hp] at h; subst h
        exact ⟨0, x, by simp [keepB, List.findIdx?_cons, hp], rfl, rfl, by simp [keepB]⟩
      | false =>
        simp [hitZ, hp] at h
        obtain ⟨k', hk', rfl⟩ := h
        obtain ⟨i, y, h1, h2, h3, h4⟩ := keep_some (p := p) hk'
        exact ⟨i + 1, y, by simp [keepB, List.findIdx?_cons, hp, h1], by simpa [keepB] using h2, by simpa using h3, by simp [keepB, h4]⟩
theorem keep_all : ∀ (K : List ByteArray), keepB K (List.replicate K.length false) = K
  | [] => rfl
  | x :: K => by simp [keepB, List.replicate_succ, keep_all K]
theorem keep_step : ∀ {K : List ByteArray} {ts : List Bool} {k : Nat} {x : ByteArray} {t : Bool}, K[k]? = some x → ts[k]? = some t → keepB (K.take (k + 1)) (ts.take (k + 1)) = keepB (K.take k) (ts.take k) ++ cond t [] [x]
  | [], _, _, _, _, h, _ => by simp at h
  | _ :: _, [], _, _, _, _, h => by simp at h
  | y :: K, u :: ts, 0, x, t, h, h' => by
    simp at h h'; subst h h'
    cases u <;> simp [keepB]
  | y :: K, u :: ts, k + 1, x, t, h, h' => by
    have ih := keep_step (K := K) (ts := ts) (k := k) (x := x) (t := t) (by simpa using h) (by simpa using h')
    rw [List.take_succ_cons, List.take_succ_cons, List.take_succ_cons, List.take_succ_cons, keepB, keepB, ih]
    cases u <;> simp
theorem to_step {α : Type} {Z : List α} {q : α → Bool} {k : Nat} {z : α} (h : Z[k]? = some z) : (Z.take (k + 1)).findIdx? q = ((Z.take k).findIdx? q).or (if q z = true then some k else none) := by
  have hk := (List.getElem?_eq_some_iff.1 h).1
  rw [takeS h, List.findIdx?_append]
  cases (Z.take k).findIdx? q with
  | some j => rfl
  | none =>
    by_cases hq : q z = true
    · simp [hq, List.findIdx?_cons, Nat.min_eq_left (Nat.le_of_lt hk)]
    · simp [hq, List.findIdx?_cons]
theorem to_hit {α : Type} {Z : List α} {q : α → Bool} {k : Nat} {z : α} (h : Z[k]? = some z) (hn : (Z.take k).findIdx? q = none) (hq : q z = true) : (Z.take (k + 1)).findIdx? q = some k := by
  rw [to_step h, hn, hq]; rfl
theorem to_had {α : Type} {Z : List α} {q : α → Bool} {k : Nat} {z : α} (h : Z[k]? = some z) (hn : optI ((Z.take k).findIdx? q) < 0 → False) : (Z.take (k + 1)).findIdx? q = (Z.take k).findIdx? q := by
  rw [to_step h]
  cases hj : (Z.take k).findIdx? q with
  | none => rw [hj] at hn; exact absurd (show optI (none : Option Nat) < 0 by decide) hn
  | some j => rfl
theorem to_miss {α : Type} {Z : List α} {q : α → Bool} {k : Nat} {z : α} (h : Z[k]? = some z) (hq : q z = false) : (Z.take (k + 1)).findIdx? q = (Z.take k).findIdx? q := by
  rw [to_step h, hq]
  cases (Z.take k).findIdx? q <;> rfl
end Go.Proofs.Ytnbnegkdbjdekaa.A
namespace Go.Proofs.Ytnbnegkdbjdekaa.A
open Go Go.RowKit
set_option linter.unusedVariables false
set_option linter.unusedSimpArgs false
set_option maxRecDepth 100000
set_option linter.unusedSectionVars false
variable [Thr]
theorem TF.agg5 : aggT Try.prog 5 = some false := by kernel_rfl
theorem TF.en21 : entersT Try.prog 21 := enters_of Try.func21 (by kernel_rfl) (by kernel_rfl)
theorem TF.en31 : entersT Try.prog 31 := enters_of Try.func31 (by kernel_rfl) (by kernel_rfl)
theorem TF.sl67 : sliceT Try.prog 67 = some 4 := by kernel_rfl
theorem TF.sz4 : szT Try.prog 4 = some 1 := by kernel_rfl
theorem TF.by4 : bytesT Try.prog 4 = some 1 := by kernel_rfl
theorem TF.zraw4 : zeroT Try.prog 4 = some [(.bool false)] := by kernel_rfl
theorem TF.sl30 : sliceT Try.prog 30 = some 36 := by kernel_rfl
theorem TF.sz36 : szT Try.prog 36 = some 4 := by kernel_rfl
theorem TF.zraw36 : zeroT Try.prog 36 = some [(.int .i64 0), (.string ⟨#[]⟩), (.string ⟨#[]⟩), (.slice none 0 0)] := by kernel_rfl
theorem TF.agg4 : aggT Try.prog 4 = some false := by kernel_rfl
theorem TF.en32 : entersT Try.prog 32 := enters_of Try.func32 (by kernel_rfl) (by kernel_rfl)
theorem TF.pl36 : placesT Try.prog 36 = some [(0, 1), (1, 1), (2, 1), (3, 1)] := by kernel_rfl
theorem TF.zero36 : ZeroT Try.prog 36 [.v (.int .i64 0), .v (.string ⟨#[]⟩), .v (.string ⟨#[]⟩), .sl 1 []] := ⟨[(.int .i64 0), (.string ⟨#[]⟩), (.string ⟨#[]⟩), (.slice none 0 0)], by kernel_rfl, (.cons (.refl _) (.cons (.refl _) (.cons (.refl _) (.cons (.nil 1) .nil))))⟩
theorem TF.by36 : bytesT Try.prog 36 = some 64 := by kernel_rfl
theorem TF.zlen36 : (zeroT Try.prog 36).map (·.length) = some 4 := by kernel_rfl
theorem rsame_ok (a b : List UInt8) (hl : a.length ≤ 1000000) (hlb : b.length ≤ 1000000) : AC Try.prog 32 [bts a, bts b] [] (fun r n => n = [] ∧ r = boolA (decide (a = b))) := by
 refine ac_of_awp (rs := [4]) (nt := 26) Try.func32 rfl rfl rfl rfl (fun w0 C0 hq => ?_)
 refine awp_seq ?_
 refine awp_region ?_
 refine r_assign rfl rfl ?_
 refine awl_nil ?_
 refine x_then ?_
 refine awp_seq ?_
 refine awp_seq ?_
 refine awp_region ?_
 refine r_move rfl rfl ?_
 first | (refine r_lenS rfl rfl TF.sl34 rfl ?_) | (refine r_lenNil rfl TF.sl34 rfl ?_) | (refine r_lenV rfl TF.sl34 rfl ?_)
 refine r_move rfl rfl ?_
 first | (refine r_lenS rfl rfl TF.sl34 rfl ?_) | (refine r_lenNil rfl TF.sl34 rfl ?_) | (refine r_lenV rfl TF.sl34 rfl ?_)
 refine r_cmp rfl rfl rfl rfl ?_
 refine awl_nil ?_
 refine x_then ?_
 refine awp_cond rfl (fun hc0 => ?_) (fun hc0 => ?_)
 ·
  have hne : ¬ a = b := fun e => by subst e; simp at hc0
  refine awp_seq ?_
  refine awp_region ?_
  refine r_assign rfl rfl ?_
  refine awl_nil ?_
  refine x_then ?_
  refine awp_ret ?_
  refine x_thenR ?_
  exact ⟨(.inl rfl), _, [], (.one (by first | exact .mk rfl rfl | exact .nil rfl)), ⟨rfl, by rw [decide_eq_false hne]; rfl⟩, (List.nil_sublist _), (by simp)⟩
 ·
  have hlen : a.length = b.length := by simp [u8s_len] at hc0; omega
  refine awp_skip ?_
  refine x_then ?_
  refine awp_seq ?_
  refine awp_seq ?_
  refine awp_region ?_
  refine r_assign rfl rfl ?_
  refine awl_nil ?_
  refine x_then ?_
  refine awp_block ?_
  refine awp_loop (fun nn0 S => ∃ k : Nat, S = ⟨26, [(0, .a (bts a)), (1, .a (bts b)), (5, .a (.v (.int .i64 ((k : Int)))))], []⟩ ∧ nn0 = a.length - k ∧ (k ≤ a.length) ∧ (a.take k = b.take k)) (a.length - (0)) ⟨26, [(0, .a (bts a)), (1, .a (bts b)), (5, .a (.v (.int .i64 (((0) : Int)))))], []⟩ ⟨rfl, (Slots.cons rfl (by first | exact .refl _ | exact .nilOwn _ _ | exact .nilSl _ | exact .ownSl _ _ _  | exact SV.le.of_eq (by simp)) (Slots.cons rfl (by first | exact .refl _ | exact .nilOwn _ _ | exact .nilSl _ | exact .ownSl _ _ _  | exact SV.le.of_eq (by simp)) (Slots.cons rfl (by first | exact .refl _ | exact .nilOwn _ _ | exact .nilSl _ | exact .ownSl _ _ _  | exact SV.le.of_eq (by simp)) Slots.nil))), (by first | exact List.Sublist.refl _ | exact .cons_cons _ (.cons _ (.refl _)) | exact List.nil_sublist _ | exact .cons _ (.refl _) | exact .cons _ (.cons _ (.refl _)) | exact .cons _ (.cons _ (.cons _ (.refl _))) | exact .cons _ (.cons _ (.cons _ (.cons _ (.refl _)))) | exact .cons_cons _ (List.nil_sublist _))⟩ ⟨0, rfl, rfl, Nat.zero_le _, rfl⟩ ?_
  rintro nn0 _ ⟨k, rfl, rfl, hk, heq⟩
  refine awp_seq ?_
  refine awp_seq ?_
  refine awp_region ?_
  refine r_move rfl rfl ?_
  refine r_move rfl rfl ?_
  first | (refine r_lenS rfl rfl TF.sl34 rfl ?_) | (refine r_lenNil rfl TF.sl34 rfl ?_) | (refine r_lenV rfl TF.sl34 rfl ?_)
  refine r_cmp rfl rfl rfl rfl ?_
  refine awl_nil ?_
  refine x_then ?_
  refine awp_cond rfl (fun hc1 => ?_) (fun hc1 => ?_)
  ·
   have hltx : k < a.length := by have := of_decide_eq_true hc1; simp [u8s_len] at this; omega
   obtain ⟨x, hx⟩ := get_lt hltx
   obtain ⟨y, hy⟩ := get_lt (show k < b.length by omega)
   refine awp_skip ?_
   refine x_then ?_
   refine awp_seq ?_
   refine awp_block ?_
   refine awp_seq ?_
   refine awp_drawS [17, 18, 19, 20, 21, 22, 23, 24] [_, _, _, _, _, _, _, _] [] [] TF.mixed rfl rfl rfl ⟨⟨⟨⟨⟨⟨⟨⟨trivial
    , ⟨_, rfl, fun sl hd hr ho => by
      refine r_move (hr 0 _ rfl rfl rfl) rfl ?_
      exact awl_nil ⟨rfl, post_put⟩⟩⟩
    , ⟨_, rfl, fun sl hd hr ho => by
      refine r_move (hr 5 _ rfl rfl rfl) rfl ?_
      exact awl_nil ⟨rfl, post_put⟩⟩⟩
    , ⟨_, rfl, fun sl hd hr ho => by
      refine r_index (hd 0 _ rfl rfl rfl) rfl (hd 1 _ rfl rfl rfl) TF.sl34 TF.sz5 (by omega) (get_map hx) rfl ?_
      exact awl_nil ⟨rfl, post_put⟩⟩⟩
    , ⟨_, rfl, fun sl hd hr ho => by
      refine r_load1 (hd 2 _ rfl rfl rfl) TF.agg5 rfl ?_
      exact awl_nil ⟨rfl, post_put⟩⟩⟩
    , ⟨_, rfl, fun sl hd hr ho => by
      refine r_move (hr 1 _ rfl rfl rfl) rfl ?_
      exact awl_nil ⟨rfl, post_put⟩⟩⟩
    , ⟨_, rfl, fun sl hd hr ho => by
      refine r_move (hr 5 _ rfl rfl rfl) rfl ?_
      exact awl_nil ⟨rfl, post_put⟩⟩⟩
    , ⟨_, rfl, fun sl hd hr ho => by
      refine r_index (hd 4 _ rfl rfl rfl) rfl (hd 5 _ rfl rfl rfl) TF.sl34 TF.sz5 (by omega) (get_map hy) rfl ?_
      exact awl_nil ⟨rfl, post_put⟩⟩⟩
    , ⟨_, rfl, fun sl hd hr ho => by
      refine r_load1 (hd 6 _ rfl rfl rfl) TF.agg5 rfl ?_
      exact awl_nil ⟨rfl, post_put⟩⟩⟩
    (by rfl) ?_
   refine r_cmp rfl rfl rfl rfl ?_
   refine awl_nil ?_
   refine x_then ?_
   refine awp_cond rfl (fun hc2 => ?_) (fun hc2 => ?_)
   ·
    have hne : ¬ a = b := fun e => by subst e; rw [hx] at hy; cases hy; simp at hc2
    refine awp_seq ?_
    refine awp_region ?_
    refine r_assign rfl rfl ?_
    refine awl_nil ?_
    refine x_then ?_
    refine awp_ret ?_
    refine x_blockR ?_
    refine x_thenR ?_
    refine x_thenR ?_
    refine x_blockR ?_
    refine x_thenR ?_
    exact ⟨(.inl rfl), _, [], (.one (by first | exact .mk rfl rfl | exact .nil rfl)), ⟨rfl, by rw [decide_eq_false hne]; rfl⟩, (List.nil_sublist _), (by simp)⟩
   ·
    have hxy : x = y := by simp at hc2; exact UInt8.toNat_inj.1 (by omega)
    refine awp_skip ?_
    refine x_block ?_
    refine x_then ?_
    refine awp_region ?_
    refine r_move rfl rfl ?_
    refine r_ari _ rfl rfl rfl (wrap_id (by first | omega | (simp; omega))) rfl ?_
    refine r_assign rfl rfl ?_
    refine awl_nil ?_
    refine x_then ?_
    refine ⟨a.length - (k + 1), ⟨26, [(0, .a (bts a)), (1, .a (bts b)), (5, .a (.v (.int .i64 (((k + 1) : Int)))))], []⟩, ⟨rfl, (Slots.cons rfl (by first | exact .refl _ | exact .nilOwn _ _ | exact .nilSl _ | exact .ownSl _ _ _  | exact SV.le.of_eq (by simp)) (Slots.cons rfl (by first | exact .refl _ | exact .nilOwn _ _ | exact .nilSl _ | exact .ownSl _ _ _  | exact SV.le.of_eq (by simp)) (Slots.cons rfl (by first | exact .refl _ | exact .nilOwn _ _ | exact .nilSl _ | exact .ownSl _ _ _  | exact SV.le.of_eq (by simp)) Slots.nil))), (by first | exact List.Sublist.refl _ | exact .cons_cons _ (.cons _ (.refl _)) | exact List.nil_sublist _ | exact .cons _ (.refl _) | exact .cons _ (.cons _ (.refl _)) | exact .cons _ (.cons _ (.cons _ (.refl _))) | exact .cons _ (.cons _ (.cons _ (.cons _ (.refl _)))) | exact .cons_cons _ (List.nil_sublist _))⟩, (by omega), ⟨k + 1, rfl, rfl, (by omega), (by rw [takeS hx, takeS hy, heq, hxy])⟩⟩
  ·
   have hge : a.length ≤ k := by have := of_decide_eq_false hc1; simp [u8s_len] at this; omega
   have hab : a = b := by rw [List.take_of_length_le hge, List.take_of_length_le (by omega)] at heq; exact heq
   refine awp_exit ?_
   refine x_thenE ?_
   refine x_thenE ?_
   refine x_blockE ?_
   refine x_then ?_
   refine awp_seq ?_
   refine awp_region ?_
   refine r_assign rfl rfl ?_
   refine awl_nil ?_
   refine x_then ?_
   refine awp_ret ?_
   exact ⟨(.inl rfl), _, [], (.one (by first | exact .mk rfl rfl | exact .nil rfl)), ⟨rfl, by rw [decide_eq_true hab]; rfl⟩, (List.nil_sublist _), (by simp)⟩
theorem only_ok (a b : List File) (hla : a.length ≤ 1000) (hlb : b.length ≤ 1000) : AC Try.prog 31 [files a, files b] [] (fun r n => n = [] ∧ r = files (onlyS a b)) := by
 refine ac_of_awp (rs := [4]) (nt := 33) Try.func31 rfl rfl rfl rfl (fun w0 C0 hq => ?_)
 refine awp_seq ?_
 refine awp_region ?_
 refine r_assign rfl rfl ?_
 refine awl_nil ?_
 refine x_then ?_
 refine awp_seq ?_
 refine awp_region ?_
 refine r_lit 8 (parts := []) rfl TF.sl22 TF.sz54 TF.zraw54 rfl rfl rfl rfl rfl rfl rfl ?_
 refine r_assign rfl rfl ?_
 refine awl_nil ?_
 refine x_then ?_
 refine awp_seq ?_
 refine awp_region ?_
 refine r_move rfl rfl ?_
 refine r_call0 hq rfl rfl (.cons (.ev rfl rfl) .nil) (rclean_ok a hla) rfl TF.en21 rfl (fun r hr => ?_)
 obtain rfl := hr
 obtain ⟨L, hL⟩ : ∃ L, L = cleanS a := ⟨_, rfl⟩
 rw [← hL]
 have hLl : L.length ≤ 1000 := by rw [hL]; have := clean_len a; omega
 refine r_assign rfl rfl ?_
 refine awl_nil ?_
 refine x_then ?_
 refine awp_seq ?_
 refine awp_seq ?_
 refine awp_region ?_
 refine r_assign rfl rfl ?_
 refine awl_nil ?_
 refine x_then ?_
 refine awp_block ?_
 refine awp_loop (fun nn0 S => ∃ k : Nat, S = ⟨33, [(1, .a (files b)), (5, .own 8 2 (((L.take k).filter (lackB b)).map File.cs)), (6, .a (files L)), (7, .a (.v (.int .i64 ((k : Int)))))], []⟩ ∧ nn0 = L.length - k ∧ (k ≤ L.length)) (L.length - (0)) ⟨33, [(1, .a (files b)), (5, .own 8 2 (((L.take (0)).filter (lackB b)).map File.cs)), (6, .a (files L)), (7, .a (.v (.int .i64 (((0) : Int)))))], []⟩ ⟨rfl, (Slots.cons rfl (by first | exact .refl _ | exact .nilOwn _ _ | exact .nilSl _ | exact .ownSl _ _ _  | exact SV.le.of_eq (by simp)) (Slots.cons rfl (by first | exact .refl _ | exact .nilOwn _ _ | exact .nilSl _ | exact .ownSl _ _ _  | exact SV.le.of_eq (by simp)) (Slots.cons rfl (by first | exact .refl _ | exact .nilOwn _ _ | exact .nilSl _ | exact .ownSl _ _ _  | exact SV.le.of_eq (by simp)) (Slots.cons rfl (by first | exact .refl _ | exact .nilOwn _ _ | exact .nilSl _ | exact .ownSl _ _ _  | exact SV.le.of_eq (by simp)) Slots.nil)))), (by first | exact List.Sublist.refl _ | exact .cons_cons _ (.cons _ (.refl _)) | exact List.nil_sublist _ | exact .cons _ (.refl _) | exact .cons _ (.cons _ (.refl _)) | exact .cons _ (.cons _ (.cons _ (.refl _))) | exact .cons _ (.cons _ (.cons _ (.cons _ (.refl _)))) | exact .cons_cons _ (List.nil_sublist _))⟩ ⟨0, rfl, rfl, Nat.zero_le _⟩ ?_
 rintro nn0 _ ⟨k, rfl, rfl, hk⟩
 refine awp_seq ?_
 refine awp_seq ?_
 refine awp_region ?_
 refine r_move rfl rfl ?_
 refine r_move rfl rfl ?_
 first | (refine r_lenS rfl rfl TF.sl22 rfl ?_) | (refine r_lenNil rfl TF.sl22 rfl ?_) | (refine r_lenV rfl TF.sl22 rfl ?_)
 refine r_cmp rfl rfl rfl rfl ?_
 refine awl_nil ?_
 refine x_then ?_
 refine awp_cond rfl (fun hc0 => ?_) (fun hc0 => ?_)
 ·
  have hltx : k < L.length := by have := of_decide_eq_true hc0; simpa using this
  obtain ⟨x, hx⟩ := get_lt hltx
  have hfl : ((L.take k).filter (lackB b)).length ≤ k := Nat.le_trans (List.length_filter_le _ _) (by simp; omega)
  refine awp_skip ?_
  refine x_then ?_
  refine awp_seq ?_
  refine awp_block ?_
  refine awp_seq ?_
  refine awp_region ?_
  refine r_move rfl rfl ?_
  refine r_move rfl rfl ?_
  refine r_move rfl rfl ?_
  refine r_index rfl rfl rfl TF.sl22 TF.sz54 (by omega) (get_map hx) rfl ?_
  first | (refine r_fieldb rfl TF.f54_0 TF.sz9 rfl ?_) | (refine r_fieldcp rfl TF.f54_0 TF.sz9 rfl ?_)
  refine r_load1 rfl TF.agg9 rfl ?_
  refine r_call0 hq rfl rfl (.cons (.ev rfl rfl) (.cons (.ev rfl rfl) .nil)) (find_ok b x.name (by omega)) rfl TF.en33 rfl (fun r hr => ?_)
  obtain rfl := hr
  refine r_cmp rfl rfl rfl rfl ?_
  refine awl_nil ?_
  refine x_then ?_
  refine awp_cond rfl (fun hc1 => ?_) (fun hc1 => ?_)
  ·
   have hp : (lackB b) x = true := by have h := find_none_look (optI_none (of_decide_eq_true hc1)); simp [lackB, h]
   refine awp_region ?_
   refine r_move rfl rfl ?_
   refine r_move rfl rfl ?_
   refine r_move rfl rfl ?_
   refine r_index rfl rfl rfl TF.sl22 TF.sz54 (by omega) (get_map hx) rfl ?_
   refine r_loadA rfl TF.agg54 TF.sz54 rfl rfl ?_
   refine r_lit 30 (parts := [(0, .tmp 29)]) rfl TF.sl22 TF.sz54 TF.zraw54 rfl rfl rfl rfl rfl rfl rfl ?_
   refine r_append 8 rfl (by first | exact .own _ | exact .nil) rfl (by first | exact .sl _ | exact .own _ _ | exact .nil) TF.sl22 TF.sz54 (by decide) TF.by54 TF.zlen54 (by simp [chunks] <;> omega) (by simp [chunks] <;> omega) rfl ?_
   refine r_assign rfl rfl ?_
   refine awl_nil ?_
   refine x_block ?_
   refine x_then ?_
   refine awp_region ?_
   refine r_move rfl rfl ?_
   refine r_ari _ rfl rfl rfl (wrap_id (by first | omega | (simp; omega))) rfl ?_
   refine r_assign rfl rfl ?_
   refine awl_nil ?_
   refine x_then ?_
   refine ⟨L.length - (k + 1), ⟨33, [(1, .a (files b)), (5, .own 8 2 (((L.take (k + 1)).filter (lackB b)).map File.cs)), (6, .a (files L)), (7, .a (.v (.int .i64 (((k + 1) : Int)))))], []⟩, ⟨rfl, (Slots.cons rfl (by first | exact .refl _ | exact .nilOwn _ _ | exact .nilSl _ | exact .ownSl _ _ _  | exact SV.le.ownEq (by first | rfl | (rw [filtS_take hx, hp, if_pos rfl, List.map_append]; rfl) | (rw [filtS_take hx, hp, if_neg (by decide), List.append_nil])) | exact SV.le.of_eq (by first | rfl | (rw [filtS_take hx, hp, if_pos rfl, List.map_append]; rfl) | (rw [filtS_take hx, hp, if_neg (by decide), List.append_nil]))) (Slots.cons rfl (by first | exact .refl _ | exact .nilOwn _ _ | exact .nilSl _ | exact .ownSl _ _ _  | exact SV.le.ownEq (by first | rfl | (rw [filtS_take hx, hp, if_pos rfl, List.map_append]; rfl) | (rw [filtS_take hx, hp, if_neg (by decide), List.append_nil])) | exact SV.le.of_eq (by first | rfl | (rw [filtS_take hx, hp, if_pos rfl, List.map_append]; rfl) | (rw [filtS_take hx, hp, if_neg (by decide), List.append_nil]))) (Slots.cons rfl (by first | exact .refl _ | exact .nilOwn _ _ | exact .nilSl _ | exact .ownSl _ _ _  | exact SV.le.ownEq (by first | rfl | (rw [filtS_take hx, hp, if_pos rfl, List.map_append]; rfl) | (rw [filtS_take hx, hp, if_neg (by decide), List.append_nil])) | exact SV.le.of_eq (by first | rfl | (rw [filtS_take hx, hp, if_pos rfl, List.map_append]; rfl) | (rw [filtS_take hx, hp, if_neg (by decide), List.append_nil]))) (Slots.cons rfl (by first | exact .refl _ | exact .nilOwn _ _ | exact .nilSl _ | exact .ownSl _ _ _  | exact SV.le.ownEq (by first | rfl | (rw [filtS_take hx, hp, if_pos rfl, List.map_append]; rfl) | (rw [filtS_take hx, hp, if_neg (by decide), List.append_nil])) | exact SV.le.of_eq (by first | rfl | (rw [filtS_take hx, hp, if_pos rfl, List.map_append]; rfl) | (rw [filtS_take hx, hp, if_neg (by decide), List.append_nil]))) Slots.nil)))), (by first | exact List.Sublist.refl _ | exact .cons_cons _ (.cons _ (.refl _)) | exact List.nil_sublist _ | exact .cons _ (.refl _) | exact .cons _ (.cons _ (.refl _)) | exact .cons _ (.cons _ (.cons _ (.refl _))) | exact .cons _ (.cons _ (.cons _ (.cons _ (.refl _)))) | exact .cons_cons _ (List.nil_sublist _))⟩, (by omega), ⟨k + 1, rfl, rfl, (by omega)⟩⟩
  ·
   have hp : (lackB b) x = false := by
    obtain ⟨i, hi⟩ := optI_some (o := b.findIdx? (fun f => decide (f.name = x.name))) (by have := of_decide_eq_false hc1; omega)
    obtain ⟨y, _, _, h⟩ := find_some_look hi
    simp [lackB, h]
   refine awp_skip ?_
   refine x_block ?_
   refine x_then ?_
   refine awp_region ?_
   refine r_move rfl rfl ?_
   refine r_ari _ rfl rfl rfl (wrap_id (by first | omega | (simp; omega))) rfl ?_
   refine r_assign rfl rfl ?_
   refine awl_nil ?_
   refine x_then ?_
   refine ⟨L.length - (k + 1), ⟨33, [(1, .a (files b)), (5, .own 8 2 (((L.take (k + 1)).filter (lackB b)).map File.cs)), (6, .a (files L)), (7, .a (.v (.int .i64 (((k + 1) : Int)))))], []⟩, ⟨rfl, (Slots.cons rfl (by first | exact .refl _ | exact .nilOwn _ _ | exact .nilSl _ | exact .ownSl _ _ _  | exact SV.le.ownEq (by first | rfl | (rw [filtS_take hx, hp, if_pos rfl, List.map_append]; rfl) | (rw [filtS_take hx, hp, if_neg (by decide), List.append_nil])) | exact SV.le.of_eq (by first | rfl | (rw [filtS_take hx, hp, if_pos rfl, List.map_append]; rfl) | (rw [filtS_take hx, hp, if_neg (by decide), List.append_nil]))) (Slots.cons rfl (by first | exact .refl _ | exact .nilOwn _ _ | exact .nilSl _ | exact .ownSl _ _ _  | exact SV.le.ownEq (by first | rfl | (rw [filtS_take hx, hp, if_pos rfl, List.map_append]; rfl) | (rw [filtS_take hx, hp, if_neg (by decide), List.append_nil])) | exact SV.le.of_eq (by first | rfl | (rw [filtS_take hx, hp, if_pos rfl, List.map_append]; rfl) | (rw [filtS_take hx, hp, if_neg (by decide), List.append_nil]))) (Slots.cons rfl (by first | exact .refl _ | exact .nilOwn _ _ | exact .nilSl _ | exact .ownSl _ _ _  | exact SV.le.ownEq (by first | rfl | (rw [filtS_take hx, hp, if_pos rfl, List.map_append]; rfl) | (rw [filtS_take hx, hp, if_neg (by decide), List.append_nil])) | exact SV.le.of_eq (by first | rfl | (rw [filtS_take hx, hp, if_pos rfl, List.map_append]; rfl) | (rw [filtS_take hx, hp, if_neg (by decide), List.append_nil]))) (Slots.cons rfl (by first | exact .refl _ | exact .nilOwn _ _ | exact .nilSl _ | exact .ownSl _ _ _  | exact SV.le.ownEq (by first | rfl | (rw [filtS_take hx, hp, if_pos rfl, List.map_append]; rfl) | (rw [filtS_take hx, hp, if_neg (by decide), List.append_nil])) | exact SV.le.of_eq (by first | rfl | (rw [filtS_take hx, hp, if_pos rfl, List.map_append]; rfl) | (rw [filtS_take hx, hp, if_neg (by decide), List.append_nil]))) Slots.nil)))), (by first | exact List.Sublist.refl _ | exact .cons_cons _ (.cons _ (.refl _)) | exact List.nil_sublist _ | exact .cons _ (.refl _) | exact .cons _ (.cons _ (.refl _)) | exact .cons _ (.cons _ (.cons _ (.refl _))) | exact .cons _ (.cons _ (.cons _ (.cons _ (.refl _)))) | exact .cons_cons _ (List.nil_sublist _))⟩, (by omega), ⟨k + 1, rfl, rfl, (by omega)⟩⟩
 ·
  have hge : L.length ≤ k := by have := of_decide_eq_false hc0; simp at this; omega
  have hkl : L.take k = L := List.take_of_length_le hge
  refine awp_exit ?_
  refine x_thenE ?_
  refine x_thenE ?_
  refine x_blockE ?_
  refine x_then ?_
  refine awp_seq ?_
  refine awp_region ?_
  refine r_move rfl rfl ?_
  refine r_assign rfl rfl ?_
  refine awl_nil ?_
  refine x_then ?_
  refine awp_ret ?_
  exact ⟨(.inl rfl), _, [], (.one (by first | exact .mk rfl rfl | exact .nil rfl)), ⟨rfl, by rw [hkl, hL, only_filter]; rfl⟩, (List.nil_sublist _), (by simp)⟩
theorem tk_get {tk : List Bool} {k : Nat} {t : Bool} (h : tk[k]? = some t) : (tk.map fun x => AV.v (.bool x))[0 + k * 1]? = some (.v (.bool t)) := by
  rw [Nat.zero_add, Nat.mul_one, List.getElem?_map, h]; rfl
theorem tk_set {tk : List Bool} {k : Nat} (h : k < tk.length) : (tk.map fun x => AV.v (.bool x)).take (0 + k * 1) ++ [AV.v (.bool true)] ++ (tk.map fun x => AV.v (.bool x)).drop (0 + k * 1 + 1) = (tk.set k true).map fun x => AV.v (.bool x) := by
  rw [Nat.zero_add, Nat.mul_one, List.map_set, List.set_eq_take_append_cons_drop, if_pos (by simpa using h)]
  simp
theorem only_get {a b : List File} {k : Nat} {s : ByteArray} (h : (wentF a b)[k]? = some s) : (onlyS a b)[k]? = some (fA a s) := by unfold onlyS; rw [List.getElem?_map, h]; rfl
theorem only_len (a b : List File) : (onlyS a b).length = (wentF a b).length := by simp [onlyS]
theorem zip_get {K : List ByteArray} {tk : List Bool} {k : Nat} {x : ByteArray} {t : Bool} (h : K[k]? = some x) (h' : tk[k]? = some t) : (K.zip tk)[k]? = some (x, t) := by
  rw [List.getElem?_zip_eq_some]; exact ⟨h, h'⟩
theorem clean_get {a : List File} {k : Nat} {s : ByteArray} (h : (namesF a)[k]? = some s) : (cleanS a)[k]? = some (fA a s) := by rw [clean_map, List.getElem?_map, h]; rfl
set_option maxHeartbeats 2000000 in
theorem rof_ok (a b : List File) (hla : a.length ≤ 1000) (hlb : b.length ≤ 1000) (hdA : ∀ f ∈ a, f.data.length ≤ 1000000) (hdb : ∀ f ∈ b, f.data.length ≤ 1000000) : AC Try.prog 14 [files a, files b] [] (fun r n => n = [] ∧ r = fcsA (OfF a b)) := by
 refine ac_of_awp (rs := [4]) (nt := 175) Try.func14 rfl rfl rfl rfl (fun w0 C0 hq => ?_)
 refine awp_seq ?_
 refine awp_region ?_
 refine r_assign rfl rfl ?_
 refine awl_nil ?_
 refine x_then ?_
 refine awp_seq ?_
 refine awp_region ?_
 refine r_move rfl rfl ?_
 refine r_move rfl rfl ?_
 refine r_call0 hq rfl rfl (.cons (.ev rfl rfl) (.cons (.ev rfl rfl) .nil)) (only_ok a b hla hlb) rfl TF.en31 rfl (fun r hr => ?_)
 obtain rfl := hr
 refine r_assign rfl rfl ?_
 refine awl_nil ?_
 refine x_then ?_
 refine awp_seq ?_
 refine awp_region ?_
 refine r_move rfl rfl ?_
 refine r_move rfl rfl ?_
 refine r_call0 hq rfl rfl (.cons (.ev rfl rfl) (.cons (.ev rfl rfl) .nil)) (only_ok b a hlb hla) rfl TF.en31 rfl (fun r hr => ?_)
 obtain rfl := hr
 have hwl := went_len a b
 have hwl2 := went_len b a
 have hnl := names_len a
 refine r_assign rfl rfl ?_
 refine awl_nil ?_
 refine x_then ?_
 refine awp_seq ?_
 refine awp_region ?_
 refine r_move rfl rfl ?_
 first | (refine r_lenS rfl rfl TF.sl22 rfl ?_) | (refine r_lenNil rfl TF.sl22 rfl ?_) | (refine r_lenV rfl TF.sl22 rfl ?_)
 refine r_makeSlice rfl rfl TF.sl67 TF.sz4 TF.by4 TF.zraw4 (by simp [onlyS]; omega) (by simp [onlyS]; omega) rfl (fun b26 => ?_)
 rw [show (List.map File.cs (onlyS b a)).length = (wentF b a).length from by simp [onlyS]]
 refine r_assign rfl rfl ?_
 refine awl_nil ?_
 refine x_then ?_
 refine awp_seq ?_
 refine awp_region ?_
 refine r_lit 27 (parts := []) rfl TF.sl30 TF.sz36 TF.zraw36 rfl rfl rfl rfl rfl rfl rfl ?_
 refine r_assign rfl rfl ?_
 refine awl_nil ?_
 refine x_then ?_
 refine awp_seq ?_
 refine awp_region ?_
 refine r_lit 28 (parts := []) rfl TF.sl30 TF.sz36 TF.zraw36 rfl rfl rfl rfl rfl rfl rfl ?_
 refine r_assign rfl rfl ?_
 refine awl_nil ?_
 refine x_then ?_
 refine awp_seq ?_
 refine awp_seq ?_
 refine awp_region ?_
 refine r_assign rfl rfl ?_
 refine awl_nil ?_
 refine x_then ?_
 refine awp_block ?_
 refine awp_loop (fun nn0 S => ∃ i : Nat, ∃ out : List FC, ∃ gone : List FC, ∃ tk : List Bool, S = ⟨175, [(0, .a (files a)), (1, .a (files b)), (5, .a (files (onlyS a b))), (6, .a (files (onlyS b a))), (7, .a (.v (.slice (some ⟨b26, 0, none⟩) (wentF b a).length (wentF b a).length))), (8, .own 27 4 (out.map FC.cs)), (9, .own 28 4 (gone.map FC.cs)), (10, .a (.v (.int .i64 ((i : Int)))))], [⟨b26, true, .box (tk.map fun x => AV.v (.bool x))⟩]⟩ ∧ nn0 = (wentF a b).length - i ∧ (i ≤ (wentF a b).length) ∧ (tk.length = (wentF b a).length) ∧ (splitF a b i = (keepB (wentF b a) tk, out, gone)) ∧ (out.length ≤ i) ∧ (gone.length ≤ i)) ((wentF a b).length - (0)) ⟨175, [(0, .a (files a)), (1, .a (files b)), (5, .a (files (onlyS a b))), (6, .a (files (onlyS b a))), (7, .a (.v (.slice (some ⟨b26, 0, none⟩) (wentF b a).length (wentF b a).length))), (8, .own 27 4 (([]).map FC.cs)), (9, .own 28 4 (([]).map FC.cs)), (10, .a (.v (.int .i64 (((0) : Int)))))], [⟨b26, true, .box (((List.replicate (wentF b a).length false)).map fun x => AV.v (.bool x))⟩]⟩ ⟨rfl, (Slots.cons rfl (by first | exact .refl _ | exact .nilOwn _ _ | exact .nilSl _ | exact .ownSl _ _ _  | exact SV.le.of_eq (by simp)) (Slots.cons rfl (by first | exact .refl _ | exact .nilOwn _ _ | exact .nilSl _ | exact .ownSl _ _ _  | exact SV.le.of_eq (by simp)) (Slots.cons rfl (by first | exact .refl _ | exact .nilOwn _ _ | exact .nilSl _ | exact .ownSl _ _ _  | exact SV.le.of_eq (by simp)) (Slots.cons rfl (by first | exact .refl _ | exact .nilOwn _ _ | exact .nilSl _ | exact .ownSl _ _ _  | exact SV.le.of_eq (by simp)) (Slots.cons rfl (by first | exact .refl _ | exact .nilOwn _ _ | exact .nilSl _ | exact .ownSl _ _ _  | exact SV.le.of_eq (by simp)) (Slots.cons rfl (by first | exact .refl _ | exact .nilOwn _ _ | exact .nilSl _ | exact .ownSl _ _ _  | exact SV.le.of_eq (by simp)) (Slots.cons rfl (by first | exact .refl _ | exact .nilOwn _ _ | exact .nilSl _ | exact .ownSl _ _ _  | exact SV.le.of_eq (by simp)) (Slots.cons rfl (by first | exact .refl _ | exact .nilOwn _ _ | exact .nilSl _ | exact .ownSl _ _ _  | exact SV.le.of_eq (by simp)) Slots.nil)))))))), (by rw [List.map_replicate]; exact List.Sublist.refl _)⟩ ⟨0, [], [], (List.replicate (wentF b a).length false), rfl, rfl, Nat.zero_le _, (by simp), (by rw [keep_all]; rfl), (by simp), (by simp)⟩ ?_
 rintro nn0 _ ⟨i, out, gone, tk, rfl, rfl, hi, htl, hst, hol, hgl⟩
 refine awp_seq ?_
 refine awp_seq ?_
 refine awp_region ?_
 refine r_move rfl rfl ?_
 refine r_move rfl rfl ?_
 first | (refine r_lenS rfl rfl TF.sl22 rfl ?_) | (refine r_lenNil rfl TF.sl22 rfl ?_) | (refine r_lenV rfl TF.sl22 rfl ?_)
 refine r_cmp rfl rfl rfl rfl ?_
 refine awl_nil ?_
 refine x_then ?_
 refine awp_cond rfl (fun hc0 => ?_) (fun hc0 => ?_)
 ·
  have hlti : i < (wentF a b).length := by have := of_decide_eq_true hc0; simp [onlyS] at this; omega
  obtain ⟨s, hs⟩ := get_lt hlti
  refine awp_skip ?_
  refine x_then ?_
  refine awp_seq ?_
  refine awp_block ?_
  refine awp_seq ?_
  refine awp_region ?_
  refine r_assign rfl rfl ?_
  refine awl_nil ?_
  refine x_then ?_
  refine awp_seq ?_
  refine awp_seq ?_
  refine awp_region ?_
  refine r_assign rfl rfl ?_
  refine awl_nil ?_
  refine x_then ?_
  refine awp_block ?_
  refine awp_loop (fun nn0 S => ∃ k : Nat, S = ⟨175, [(0, .a (files a)), (1, .a (files b)), (5, .a (files (onlyS a b))), (6, .a (files (onlyS b a))), (7, .a (.v (.slice (some ⟨b26, 0, none⟩) (wentF b a).length (wentF b a).length))), (8, .own 27 4 (out.map FC.cs)), (9, .own 28 4 (gone.map FC.cs)), (10, .a (.v (.int .i64 ((i : Int))))), (11, .a (.v (.int .i64 (optI ((((wentF b a).zip tk).take k).findIdx? (hitZ (hitF a b s))))))), (12, .a (.v (.int .i64 ((k : Int)))))], [⟨b26, true, .box (tk.map fun x => AV.v (.bool x))⟩]⟩ ∧ nn0 = (wentF b a).length - k ∧ (k ≤ (wentF b a).length)) ((wentF b a).length - (0)) ⟨175, [(0, .a (files a)), (1, .a (files b)), (5, .a (files (onlyS a b))), (6, .a (files (onlyS b a))), (7, .a (.v (.slice (some ⟨b26, 0, none⟩) (wentF b a).length (wentF b a).length))), (8, .own 27 4 (out.map FC.cs)), (9, .own 28 4 (gone.map FC.cs)), (10, .a (.v (.int .i64 ((i : Int))))), (11, .a (.v (.int .i64 (optI ((((wentF b a).zip tk).take (0)).findIdx? (hitZ (hitF a b s))))))), (12, .a (.v (.int .i64 (((0) : Int)))))], [⟨b26, true, .box (tk.map fun x => AV.v (.bool x))⟩]⟩ ⟨rfl, (Slots.cons rfl (by first | exact .refl _ | exact .nilOwn _ _ | exact .nilSl _ | exact .ownSl _ _ _  | exact SV.le.of_eq (by simp)) (Slots.cons rfl (by first | exact .refl _ | exact .nilOwn _ _ | exact .nilSl _ | exact .ownSl _ _ _  | exact SV.le.of_eq (by simp)) (Slots.cons rfl (by first | exact .refl _ | exact .nilOwn _ _ | exact .nilSl _ | exact .ownSl _ _ _  | exact SV.le.of_eq (by simp)) (Slots.cons rfl (by first | exact .refl _ | exact .nilOwn _ _ | exact .nilSl _ | exact .ownSl _ _ _  | exact SV.le.of_eq (by simp)) (Slots.cons rfl (by first | exact .refl _ | exact .nilOwn _ _ | exact .nilSl _ | exact .ownSl _ _ _  | exact SV.le.of_eq (by simp)) (Slots.cons rfl (by first | exact .refl _ | exact .nilOwn _ _ | exact .nilSl _ | exact .ownSl _ _ _  | exact SV.le.of_eq (by simp)) (Slots.cons rfl (by first | exact .refl _ | exact .nilOwn _ _ | exact .nilSl _ | exact .ownSl _ _ _  | exact SV.le.of_eq (by simp)) (Slots.cons rfl (by first | exact .refl _ | exact .nilOwn _ _ | exact .nilSl _ | exact .ownSl _ _ _  | exact SV.le.of_eq (by simp)) (Slots.cons rfl (by first | exact .refl _ | exact .nilOwn _ _ | exact .nilSl _ | exact .ownSl _ _ _  | exact SV.le.of_eq (by simp)) (Slots.cons rfl (by first | exact .refl _ | exact .nilOwn _ _ | exact .nilSl _ | exact .ownSl _ _ _  | exact SV.le.of_eq (by simp)) Slots.nil)))))))))), (by first | exact List.Sublist.refl _ | exact .cons_cons _ (.cons _ (.refl _)) | exact List.nil_sublist _ | exact .cons _ (.refl _) | exact .cons _ (.cons _ (.refl _)) | exact .cons _ (.cons _ (.cons _ (.refl _))) | exact .cons _ (.cons _ (.cons _ (.cons _ (.refl _)))) | exact .cons_cons _ (List.nil_sublist _))⟩ ⟨0, rfl, rfl, Nat.zero_le _⟩ ?_
  rintro nn0 _ ⟨k, rfl, rfl, hk⟩
  refine awp_seq ?_
  refine awp_seq ?_
  refine awp_region ?_
  refine r_move rfl rfl ?_
  refine r_move rfl rfl ?_
  first | (refine r_lenS rfl rfl TF.sl22 rfl ?_) | (refine r_lenNil rfl TF.sl22 rfl ?_) | (refine r_lenV rfl TF.sl22 rfl ?_)
  refine r_cmp rfl rfl rfl rfl ?_
  refine awl_nil ?_
  refine x_then ?_
  refine awp_cond rfl (fun hc1 => ?_) (fun hc1 => ?_)
  ·
   have hltk : k < (wentF b a).length := by have := of_decide_eq_true hc1; simp [onlyS] at this; omega
   obtain ⟨x, hx⟩ := get_lt hltk
   obtain ⟨tb, htb⟩ := get_lt (show k < tk.length by omega)
   have hz := zip_get hx htb
   have holl := only_len b a
   refine awp_skip ?_
   refine x_then ?_
   refine awp_seq ?_
   refine awp_block ?_
   refine awp_seq ?_
   rcases Bool.eq_false_or_eq_true (decide (optI ((((wentF b a).zip tk).take k).findIdx? (hitZ (hitF a b s))) < 0)) with hg43 | hg43
   ·
    have hno := optI_none (of_decide_eq_true hg43)
    rcases Bool.eq_false_or_eq_true (!tb) with hg50 | hg50
    ·
     rcases Bool.eq_false_or_eq_true (decide ((0 : Int) < ((u8s ((lookF a s).getD [])).length : Int))) with hg59 | hg59
     ·
      have hdl : decide (0 < ((lookF a s).getD []).length) = true := by have := of_decide_eq_true hg59; simp [u8s_len] at this ⊢; omega
      refine awp_drawS [41, 42, 43, 44, 45, 46, 47, 48, 49, 50, 51, 52, 53, 54, 55, 56, 57, 58, 59, 60, 61, 62, 63, 64, 65, 66, 67, 68, 69] [_, _, _, _, _, _, _, _, _, _, _, _, _, _, _, _, _, _, _, _, _, _, _, _, _, _, _, _, _] [] [] TF.mixed rfl rfl rfl ⟨⟨⟨⟨⟨⟨⟨⟨⟨⟨⟨⟨⟨⟨⟨⟨⟨⟨⟨⟨⟨⟨⟨⟨⟨⟨⟨⟨⟨trivial
       , ⟨_, rfl, fun sl hd hr ho => by
         refine r_move (hr 11 _ rfl rfl rfl) rfl ?_
         exact awl_nil ⟨rfl, post_put⟩⟩⟩
       , ⟨_, rfl, fun sl hd hr ho => by
         refine r_cmp (hd 0 _ rfl rfl rfl) rfl rfl rfl ?_
         exact awl_nil ⟨rfl, post_put⟩⟩⟩
       , ⟨_, rfl, fun sl hd hr ho => by
         refine r_move (hd 1 _ rfl rfl rfl) rfl ?_
         exact awl_nil ⟨rfl, post_put⟩⟩⟩
       , ⟨_, rfl, fun sl hd hr ho => by
         refine g_run rfl (hd 2 _ rfl rfl rfl) hg43 ?_
         refine r_move (hr 7 _ rfl rfl rfl) rfl ?_
         exact awl_nil ⟨rfl, post_put⟩⟩⟩
       , ⟨_, rfl, fun sl hd hr ho => by
         refine g_run rfl (hd 2 _ rfl rfl rfl) hg43 ?_
         refine r_move (hr 12 _ rfl rfl rfl) rfl ?_
         exact awl_nil ⟨rfl, post_put⟩⟩⟩
       , ⟨_, rfl, fun sl hd hr ho => by
         refine g_run rfl (hd 2 _ rfl rfl rfl) hg43 ?_
         refine r_indexV (hd 3 _ rfl rfl rfl) (hd 4 _ rfl rfl rfl) TF.sl67 TF.sz4 (by omega) (by omega) rfl ?_
         exact awl_nil ⟨rfl, post_put⟩⟩⟩
       , ⟨_, rfl, fun sl hd hr ho => by
         refine g_run rfl (hd 2 _ rfl rfl rfl) hg43 ?_
         refine r_load1b 0 (hd 5 _ rfl rfl rfl) rfl (tk_get htb) TF.agg4 rfl ?_
         exact awl_nil ⟨rfl, post_put⟩⟩⟩
       , ⟨_, rfl, fun sl hd hr ho => by
         refine g_run rfl (hd 2 _ rfl rfl rfl) hg43 ?_
         refine r_not (hd 6 _ rfl rfl rfl) rfl ?_
         exact awl_nil ⟨rfl, post_put⟩⟩⟩
       , ⟨_, rfl, fun sl hd hr ho => by
         refine r_pickT (hd 2 _ rfl rfl rfl) hg43 (hd 7 _ rfl rfl rfl) rfl ?_
         exact awl_nil ⟨rfl, post_put⟩⟩⟩
       , ⟨_, rfl, fun sl hd hr ho => by
         refine r_move (hd 8 _ rfl rfl rfl) rfl ?_
         exact awl_nil ⟨rfl, post_put⟩⟩⟩
       , ⟨_, rfl, fun sl hd hr ho => by
         refine g_run rfl (hd 9 _ rfl rfl rfl) hg50 ?_
         refine r_move (hr 5 _ rfl rfl rfl) rfl ?_
         exact awl_nil ⟨rfl, post_put⟩⟩⟩
       , ⟨_, rfl, fun sl hd hr ho => by
         refine g_run rfl (hd 9 _ rfl rfl rfl) hg50 ?_
         refine r_move (hr 10 _ rfl rfl rfl) rfl ?_
         exact awl_nil ⟨rfl, post_put⟩⟩⟩
       , ⟨_, rfl, fun sl hd hr ho => by
         refine g_run rfl (hd 9 _ rfl rfl rfl) hg50 ?_
         refine r_index (hd 10 _ rfl rfl rfl) rfl (hd 11 _ rfl rfl rfl) TF.sl22 TF.sz54 (by omega) (get_map (only_get hs)) rfl ?_
         exact awl_nil ⟨rfl, post_put⟩⟩⟩
       , ⟨_, rfl, fun sl hd hr ho => by
         refine g_run rfl (hd 9 _ rfl rfl rfl) hg50 ?_
         first | (refine r_fieldcp (hd 12 _ rfl rfl rfl) TF.f54_1 TF.sz34 rfl ?_) | (refine r_fieldb (hd 12 _ rfl rfl rfl) TF.f54_1 TF.sz34 rfl ?_)
         exact awl_nil ⟨rfl, post_put⟩⟩⟩
       , ⟨_, rfl, fun sl hd hr ho => by
         refine g_run rfl (hd 9 _ rfl rfl rfl) hg50 ?_
         first | (refine r_load1 (hd 13 _ rfl rfl rfl) TF.agg34 rfl ?_) | (refine r_load1b 0 (hd 13 _ rfl rfl rfl) rfl rfl TF.agg34 rfl ?_)
         exact awl_nil ⟨rfl, post_put⟩⟩⟩
       , ⟨_, rfl, fun sl hd hr ho => by
         refine g_run rfl (hd 9 _ rfl rfl rfl) hg50 ?_
         first | (refine r_lenS (hd 14 _ rfl rfl rfl) rfl TF.sl34 rfl ?_) | (refine r_lenNil (hd 14 _ rfl rfl rfl) TF.sl34 rfl ?_) | (refine r_lenV (hd 14 _ rfl rfl rfl) TF.sl34 rfl ?_)
         exact awl_nil ⟨rfl, post_put⟩⟩⟩
       , ⟨_, rfl, fun sl hd hr ho => by
         refine g_run rfl (hd 9 _ rfl rfl rfl) hg50 ?_
         refine r_cmp (hd 15 _ rfl rfl rfl) rfl rfl rfl ?_
         exact awl_nil ⟨rfl, post_put⟩⟩⟩
       , ⟨_, rfl, fun sl hd hr ho => by
         refine r_pickT (hd 9 _ rfl rfl rfl) hg50 (hd 16 _ rfl rfl rfl) rfl ?_
         exact awl_nil ⟨rfl, post_put⟩⟩⟩
       , ⟨_, rfl, fun sl hd hr ho => by
         refine r_move (hd 17 _ rfl rfl rfl) rfl ?_
         exact awl_nil ⟨rfl, post_put⟩⟩⟩
       , ⟨_, rfl, fun sl hd hr ho => by
         refine g_run rfl (hd 18 _ rfl rfl rfl) hg59 ?_
         refine r_move (hr 5 _ rfl rfl rfl) rfl ?_
         exact awl_nil ⟨rfl, post_put⟩⟩⟩
       , ⟨_, rfl, fun sl hd hr ho => by
         refine g_run rfl (hd 18 _ rfl rfl rfl) hg59 ?_
         refine r_move (hr 10 _ rfl rfl rfl) rfl ?_
         exact awl_nil ⟨rfl, post_put⟩⟩⟩
       , ⟨_, rfl, fun sl hd hr ho => by
         refine g_run rfl (hd 18 _ rfl rfl rfl) hg59 ?_
         refine r_index (hd 19 _ rfl rfl rfl) rfl (hd 20 _ rfl rfl rfl) TF.sl22 TF.sz54 (by omega) (get_map (only_get hs)) rfl ?_
         exact awl_nil ⟨rfl, post_put⟩⟩⟩
       , ⟨_, rfl, fun sl hd hr ho => by
         refine g_run rfl (hd 18 _ rfl rfl rfl) hg59 ?_
         first | (refine r_fieldcp (hd 21 _ rfl rfl rfl) TF.f54_1 TF.sz34 rfl ?_) | (refine r_fieldb (hd 21 _ rfl rfl rfl) TF.f54_1 TF.sz34 rfl ?_)
         exact awl_nil ⟨rfl, post_put⟩⟩⟩
       , ⟨_, rfl, fun sl hd hr ho => by
         refine g_run rfl (hd 18 _ rfl rfl rfl) hg59 ?_
         first | (refine r_load1 (hd 22 _ rfl rfl rfl) TF.agg34 rfl ?_) | (refine r_load1b 0 (hd 22 _ rfl rfl rfl) rfl rfl TF.agg34 rfl ?_)
         exact awl_nil ⟨rfl, post_put⟩⟩⟩
       , ⟨_, rfl, fun sl hd hr ho => by
         refine g_run rfl (hd 18 _ rfl rfl rfl) hg59 ?_
         refine r_move (hr 6 _ rfl rfl rfl) rfl ?_
         exact awl_nil ⟨rfl, post_put⟩⟩⟩
       , ⟨_, rfl, fun sl hd hr ho => by
         refine g_run rfl (hd 18 _ rfl rfl rfl) hg59 ?_
         refine r_move (hr 12 _ rfl rfl rfl) rfl ?_
         exact awl_nil ⟨rfl, post_put⟩⟩⟩
       , ⟨_, rfl, fun sl hd hr ho => by
         refine g_run rfl (hd 18 _ rfl rfl rfl) hg59 ?_
         refine r_index (hd 24 _ rfl rfl rfl) rfl (hd 25 _ rfl rfl rfl) TF.sl22 TF.sz54 (by omega) (get_map (only_get hx)) rfl ?_
         exact awl_nil ⟨rfl, post_put⟩⟩⟩
       , ⟨_, rfl, fun sl hd hr ho => by
         refine g_run rfl (hd 18 _ rfl rfl rfl) hg59 ?_
         first | (refine r_fieldcp (hd 26 _ rfl rfl rfl) TF.f54_1 TF.sz34 rfl ?_) | (refine r_fieldb (hd 26 _ rfl rfl rfl) TF.f54_1 TF.sz34 rfl ?_)
         exact awl_nil ⟨rfl, post_put⟩⟩⟩
       , ⟨_, rfl, fun sl hd hr ho => by
         refine g_run rfl (hd 18 _ rfl rfl rfl) hg59 ?_
         first | (refine r_load1 (hd 27 _ rfl rfl rfl) TF.agg34 rfl ?_) | (refine r_load1b 0 (hd 27 _ rfl rfl rfl) rfl rfl TF.agg34 rfl ?_)
         exact awl_nil ⟨rfl, post_put⟩⟩⟩
       (by rfl) ?_
      refine g_run rfl rfl hg59 ?_
      refine r_call0 hq rfl rfl (.cons (.ev rfl rfl) (.cons (.ev rfl rfl) .nil)) (rsame_ok ((lookF a s).getD []) ((lookF b x).getD []) (look_len hdA s) (look_len hdb x)) rfl TF.en32 rfl (fun r hr => ?_)
      obtain rfl := hr
      refine r_pickT rfl hg59 rfl rfl ?_
      refine awl_nil ?_
      refine x_then ?_
      refine awp_cond rfl (fun hc2 => ?_) (fun hc2 => ?_)
      ·
       have hto := to_hit (q := (hitZ (hitF a b s))) hz hno (by simp only [hitZ, hitF, hg50, hdl, hc2, Bool.and_self])
       refine awp_region ?_
       refine r_move rfl rfl ?_
       refine r_assign rfl rfl ?_
       refine awl_nil ?_
       refine x_block ?_
       refine x_then ?_
       refine awp_region ?_
       refine r_move rfl rfl ?_
       refine r_ari _ rfl rfl rfl (wrap_id (by first | omega | (simp; omega))) rfl ?_
       refine r_assign rfl rfl ?_
       refine awl_nil ?_
       refine x_then ?_
       refine ⟨(wentF b a).length - (k + 1), ⟨175, [(0, .a (files a)), (1, .a (files b)), (5, .a (files (onlyS a b))), (6, .a (files (onlyS b a))), (7, .a (.v (.slice (some ⟨b26, 0, none⟩) (wentF b a).length (wentF b a).length))), (8, .own 27 4 (out.map FC.cs)), (9, .own 28 4 (gone.map FC.cs)), (10, .a (.v (.int .i64 ((i : Int))))), (11, .a (.v (.int .i64 (optI ((((wentF b a).zip tk).take (k + 1)).findIdx? (hitZ (hitF a b s))))))), (12, .a (.v (.int .i64 (((k + 1) : Int)))))], [⟨b26, true, .box (tk.map fun x => AV.v (.bool x))⟩]⟩, ⟨rfl, (Slots.cons rfl (by first | exact .refl _ | exact .nilOwn _ _ | exact .nilSl _ | exact .ownSl _ _ _  | exact SV.le.ownEq (by rw [hto]; first | done | rfl) | exact SV.le.of_eq (by rw [hto]; first | done | rfl)) (Slots.cons rfl (by first | exact .refl _ | exact .nilOwn _ _ | exact .nilSl _ | exact .ownSl _ _ _  | exact SV.le.ownEq (by rw [hto]; first | done | rfl) | exact SV.le.of_eq (by rw [hto]; first | done | rfl)) (Slots.cons rfl (by first | exact .refl _ | exact .nilOwn _ _ | exact .nilSl _ | exact .ownSl _ _ _  | exact SV.le.ownEq (by rw [hto]; first | done | rfl) | exact SV.le.of_eq (by rw [hto]; first | done | rfl)) (Slots.cons rfl (by first | exact .refl _ | exact .nilOwn _ _ | exact .nilSl _ | exact .ownSl _ _ _  | exact SV.le.ownEq (by rw [hto]; first | done | rfl) | exact SV.le.of_eq (by rw [hto]; first | done | rfl)) (Slots.cons rfl (by first | exact .refl _ | exact .nilOwn _ _ | exact .nilSl _ | exact .ownSl _ _ _  | exact SV.le.ownEq (by rw [hto]; first | done | rfl) | exact SV.le.of_eq (by rw [hto]; first | done | rfl)) (Slots.cons rfl (by first | exact .refl _ | exact .nilOwn _ _ | exact .nilSl _ | exact .ownSl _ _ _  | exact SV.le.ownEq (by rw [hto]; first | done | rfl) | exact SV.le.of_eq (by rw [hto]; first | done | rfl)) (Slots.cons rfl (by first | exact .refl _ | exact .nilOwn _ _ | exact .nilSl _ | exact .ownSl _ _ _  | exact SV.le.ownEq (by rw [hto]; first | done | rfl) | exact SV.le.of_eq (by rw [hto]; first | done | rfl)) (Slots.cons rfl (by first | exact .refl _ | exact .nilOwn _ _ | exact .nilSl _ | exact .ownSl _ _ _  | exact SV.le.ownEq (by rw [hto]; first | done | rfl) | exact SV.le.of_eq (by rw [hto]; first | done | rfl)) (Slots.cons rfl (by first | exact .refl _ | exact .nilOwn _ _ | exact .nilSl _ | exact .ownSl _ _ _  | exact SV.le.ownEq (by rw [hto]; first | done | rfl) | exact SV.le.of_eq (by rw [hto]; first | done | rfl)) (Slots.cons rfl (by first | exact .refl _ | exact .nilOwn _ _ | exact .nilSl _ | exact .ownSl _ _ _  | exact SV.le.ownEq (by rw [hto]; first | done | rfl) | exact SV.le.of_eq (by rw [hto]; first | done | rfl)) Slots.nil)))))))))), (by first | exact List.Sublist.refl _ | exact .cons_cons _ (.cons _ (.refl _)) | exact List.nil_sublist _ | exact .cons _ (.refl _) | exact .cons _ (.cons _ (.refl _)) | exact .cons _ (.cons _ (.cons _ (.refl _))) | exact .cons _ (.cons _ (.cons _ (.cons _ (.refl _)))) | exact .cons_cons _ (List.nil_sublist _))⟩, (by omega), ⟨k + 1, rfl, rfl, (by omega)⟩⟩
      ·
       have hto := to_miss (q := (hitZ (hitF a b s))) hz (by simp only [hitZ, hitF, hc2, Bool.and_false])
       refine awp_skip ?_
       refine x_block ?_
       refine x_then ?_
       refine awp_region ?_
       refine r_move rfl rfl ?_
       refine r_ari _ rfl rfl rfl (wrap_id (by first | omega | (simp; omega))) rfl ?_
       refine r_assign rfl rfl ?_
       refine awl_nil ?_
       refine x_then ?_
       refine ⟨(wentF b a).length - (k + 1), ⟨175, [(0, .a (files a)), (1, .a (files b)), (5, .a (files (onlyS a b))), (6, .a (files (onlyS b a))), (7, .a (.v (.slice (some ⟨b26, 0, none⟩) (wentF b a).length (wentF b a).length))), (8, .own 27 4 (out.map FC.cs)), (9, .own 28 4 (gone.map FC.cs)), (10, .a (.v (.int .i64 ((i : Int))))), (11, .a (.v (.int .i64 (optI ((((wentF b a).zip tk).take (k + 1)).findIdx? (hitZ (hitF a b s))))))), (12, .a (.v (.int .i64 (((k + 1) : Int)))))], [⟨b26, true, .box (tk.map fun x => AV.v (.bool x))⟩]⟩, ⟨rfl, (Slots.cons rfl (by first | exact .refl _ | exact .nilOwn _ _ | exact .nilSl _ | exact .ownSl _ _ _  | exact SV.le.ownEq (by rw [hto]; first | done | rfl) | exact SV.le.of_eq (by rw [hto]; first | done | rfl)) (Slots.cons rfl (by first | exact .refl _ | exact .nilOwn _ _ | exact .nilSl _ | exact .ownSl _ _ _  | exact SV.le.ownEq (by rw [hto]; first | done | rfl) | exact SV.le.of_eq (by rw [hto]; first | done | rfl)) (Slots.cons rfl (by first | exact .refl _ | exact .nilOwn _ _ | exact .nilSl _ | exact .ownSl _ _ _  | exact SV.le.ownEq (by rw [hto]; first | done | rfl) | exact SV.le.of_eq (by rw [hto]; first | done | rfl)) (Slots.cons rfl (by first | exact .refl _ | exact .nilOwn _ _ | exact .nilSl _ | exact .ownSl _ _ _  | exact SV.le.ownEq (by rw [hto]; first | done | rfl) | exact SV.le.of_eq (by rw [hto]; first | done | rfl)) (Slots.cons rfl (by first | exact .refl _ | exact .nilOwn _ _ | exact .nilSl _ | exact .ownSl _ _ _  | exact SV.le.ownEq (by rw [hto]; first | done | rfl) | exact SV.le.of_eq (by rw [hto]; first | done | rfl)) (Slots.cons rfl (by first | exact .refl _ | exact .nilOwn _ _ | exact .nilSl _ | exact .ownSl _ _ _  | exact SV.le.ownEq (by rw [hto]; first | done | rfl) | exact SV.le.of_eq (by rw [hto]; first | done | rfl)) (Slots.cons rfl (by first | exact .refl _ | exact .nilOwn _ _ | exact .nilSl _ | exact .ownSl _ _ _  | exact SV.le.ownEq (by rw [hto]; first | done | rfl) | exact SV.le.of_eq (by rw [hto]; first | done | rfl)) (Slots.cons rfl (by first | exact .refl _ | exact .nilOwn _ _ | exact .nilSl _ | exact .ownSl _ _ _  | exact SV.le.ownEq (by rw [hto]; first | done | rfl) | exact SV.le.of_eq (by rw [hto]; first | done | rfl)) (Slots.cons rfl (by first | exact .refl _ | exact .nilOwn _ _ | exact .nilSl _ | exact .ownSl _ _ _  | exact SV.le.ownEq (by rw [hto]; first | done | rfl) | exact SV.le.of_eq (by rw [hto]; first | done | rfl)) (Slots.cons rfl (by first | exact .refl _ | exact .nilOwn _ _ | exact .nilSl _ | exact .ownSl _ _ _  | exact SV.le.ownEq (by rw [hto]; first | done | rfl) | exact SV.le.of_eq (by rw [hto]; first | done | rfl)) Slots.nil)))))))))), (by first | exact List.Sublist.refl _ | exact .cons_cons _ (.cons _ (.refl _)) | exact List.nil_sublist _ | exact .cons _ (.refl _) | exact .cons _ (.cons _ (.refl _)) | exact .cons _ (.cons _ (.cons _ (.refl _))) | exact .cons _ (.cons _ (.cons _ (.cons _ (.refl _)))) | exact .cons_cons _ (List.nil_sublist _))⟩, (by omega), ⟨k + 1, rfl, rfl, (by omega)⟩⟩
     ·
      have hdl : decide (0 < ((lookF a s).getD []).length) = false := by have := of_decide_eq_false hg59; simp [u8s_len] at this ⊢; omega
      have hto := to_miss (q := (hitZ (hitF a b s))) hz (by simp only [hitZ, hitF, hdl, Bool.false_and, Bool.and_false])
      refine awp_drawS [41, 42, 43, 44, 45, 46, 47, 48, 49, 50, 51, 52, 53, 54, 55, 56, 57, 58, 59, 60, 61, 62, 63, 64, 65, 66, 67, 68, 69] [_, _, _, _, _, _, _, _, _, _, _, _, _, _, _, _, _, _, _, _, _, _, _, _, _, _, _, _, _] [] [] TF.mixed rfl rfl rfl ⟨⟨⟨⟨⟨⟨⟨⟨⟨⟨⟨⟨⟨⟨⟨⟨⟨⟨⟨⟨⟨⟨⟨⟨⟨⟨⟨⟨⟨trivial
       , ⟨_, rfl, fun sl hd hr ho => by
         refine r_move (hr 11 _ rfl rfl rfl) rfl ?_
         exact awl_nil ⟨rfl, post_put⟩⟩⟩
       , ⟨_, rfl, fun sl hd hr ho => by
         refine r_cmp (hd 0 _ rfl rfl rfl) rfl rfl rfl ?_
         exact awl_nil ⟨rfl, post_put⟩⟩⟩
       , ⟨_, rfl, fun sl hd hr ho => by
         refine r_move (hd 1 _ rfl rfl rfl) rfl ?_
         exact awl_nil ⟨rfl, post_put⟩⟩⟩
       , ⟨_, rfl, fun sl hd hr ho => by
         refine g_run rfl (hd 2 _ rfl rfl rfl) hg43 ?_
         refine r_move (hr 7 _ rfl rfl rfl) rfl ?_
         exact awl_nil ⟨rfl, post_put⟩⟩⟩
       , ⟨_, rfl, fun sl hd hr ho => by
         refine g_run rfl (hd 2 _ rfl rfl rfl) hg43 ?_
         refine r_move (hr 12 _ rfl rfl rfl) rfl ?_
         exact awl_nil ⟨rfl, post_put⟩⟩⟩
       , ⟨_, rfl, fun sl hd hr ho => by
         refine g_run rfl (hd 2 _ rfl rfl rfl) hg43 ?_
         refine r_indexV (hd 3 _ rfl rfl rfl) (hd 4 _ rfl rfl rfl) TF.sl67 TF.sz4 (by omega) (by omega) rfl ?_
         exact awl_nil ⟨rfl, post_put⟩⟩⟩
       , ⟨_, rfl, fun sl hd hr ho => by
         refine g_run rfl (hd 2 _ rfl rfl rfl) hg43 ?_
         refine r_load1b 0 (hd 5 _ rfl rfl rfl) rfl (tk_get htb) TF.agg4 rfl ?_
         exact awl_nil ⟨rfl, post_put⟩⟩⟩
       , ⟨_, rfl, fun sl hd hr ho => by
         refine g_run rfl (hd 2 _ rfl rfl rfl) hg43 ?_
         refine r_not (hd 6 _ rfl rfl rfl) rfl ?_
         exact awl_nil ⟨rfl, post_put⟩⟩⟩
       , ⟨_, rfl, fun sl hd hr ho => by
         refine r_pickT (hd 2 _ rfl rfl rfl) hg43 (hd 7 _ rfl rfl rfl) rfl ?_
         exact awl_nil ⟨rfl, post_put⟩⟩⟩
       , ⟨_, rfl, fun sl hd hr ho => by
         refine r_move (hd 8 _ rfl rfl rfl) rfl ?_
         exact awl_nil ⟨rfl, post_put⟩⟩⟩
       , ⟨_, rfl, fun sl hd hr ho => by
         refine g_run rfl (hd 9 _ rfl rfl rfl) hg50 ?_
         refine r_move (hr 5 _ rfl rfl rfl) rfl ?_
         exact awl_nil ⟨rfl, post_put⟩⟩⟩
       , ⟨_, rfl, fun sl hd hr ho => by
         refine g_run rfl (hd 9 _ rfl rfl rfl) hg50 ?_
         refine r_move (hr 10 _ rfl rfl rfl) rfl ?_
         exact awl_nil ⟨rfl, post_put⟩⟩⟩
       , ⟨_, rfl, fun sl hd hr ho => by
         refine g_run rfl (hd 9 _ rfl rfl rfl) hg50 ?_
         refine r_index (hd 10 _ rfl rfl rfl) rfl (hd 11 _ rfl rfl rfl) TF.sl22 TF.sz54 (by omega) (get_map (only_get hs)) rfl ?_
         exact awl_nil ⟨rfl, post_put⟩⟩⟩
       , ⟨_, rfl, fun sl hd hr ho => by
         refine g_run rfl (hd 9 _ rfl rfl rfl) hg50 ?_
         first | (refine r_fieldcp (hd 12 _ rfl rfl rfl) TF.f54_1 TF.sz34 rfl ?_) | (refine r_fieldb (hd 12 _ rfl rfl rfl) TF.f54_1 TF.sz34 rfl ?_)
         exact awl_nil ⟨rfl, post_put⟩⟩⟩
       , ⟨_, rfl, fun sl hd hr ho => by
         refine g_run rfl (hd 9 _ rfl rfl rfl) hg50 ?_
         first | (refine r_load1 (hd 13 _ rfl rfl rfl) TF.agg34 rfl ?_) | (refine r_load1b 0 (hd 13 _ rfl rfl rfl) rfl rfl TF.agg34 rfl ?_)
         exact awl_nil ⟨rfl, post_put⟩⟩⟩
       , ⟨_, rfl, fun sl hd hr ho => by
         refine g_run rfl (hd 9 _ rfl rfl rfl) hg50 ?_
         first | (refine r_lenS (hd 14 _ rfl rfl rfl) rfl TF.sl34 rfl ?_) | (refine r_lenNil (hd 14 _ rfl rfl rfl) TF.sl34 rfl ?_) | (refine r_lenV (hd 14 _ rfl rfl rfl) TF.sl34 rfl ?_)
         exact awl_nil ⟨rfl, post_put⟩⟩⟩
       , ⟨_, rfl, fun sl hd hr ho => by
         refine g_run rfl (hd 9 _ rfl rfl rfl) hg50 ?_
         refine r_cmp (hd 15 _ rfl rfl rfl) rfl rfl rfl ?_
         exact awl_nil ⟨rfl, post_put⟩⟩⟩
       , ⟨_, rfl, fun sl hd hr ho => by
         refine r_pickT (hd 9 _ rfl rfl rfl) hg50 (hd 16 _ rfl rfl rfl) rfl ?_
         exact awl_nil ⟨rfl, post_put⟩⟩⟩
       , ⟨_, rfl, fun sl hd hr ho => by
         refine r_move (hd 17 _ rfl rfl rfl) rfl ?_
         exact awl_nil ⟨rfl, post_put⟩⟩⟩
       , ⟨_, rfl, fun sl hd hr ho => by
         refine g_skip rfl (hd 18 _ rfl rfl rfl) hg59 rfl ?_
         exact awl_nil ⟨rfl, post_put⟩⟩⟩
       , ⟨_, rfl, fun sl hd hr ho => by
         refine g_skip rfl (hd 18 _ rfl rfl rfl) hg59 rfl ?_
         exact awl_nil ⟨rfl, post_put⟩⟩⟩
       , ⟨_, rfl, fun sl hd hr ho => by
         refine g_skip rfl (hd 18 _ rfl rfl rfl) hg59 rfl ?_
         exact awl_nil ⟨rfl, post_put⟩⟩⟩
       , ⟨_, rfl, fun sl hd hr ho => by
         refine g_skip rfl (hd 18 _ rfl rfl rfl) hg59 rfl ?_
         exact awl_nil ⟨rfl, post_put⟩⟩⟩
       , ⟨_, rfl, fun sl hd hr ho => by
         refine g_skip rfl (hd 18 _ rfl rfl rfl) hg59 rfl ?_
         exact awl_nil ⟨rfl, post_put⟩⟩⟩
       , ⟨_, rfl, fun sl hd hr ho => by
         refine g_skip rfl (hd 18 _ rfl rfl rfl) hg59 rfl ?_
         exact awl_nil ⟨rfl, post_put⟩⟩⟩
       , ⟨_, rfl, fun sl hd hr ho => by
         refine g_skip rfl (hd 18 _ rfl rfl rfl) hg59 rfl ?_
         exact awl_nil ⟨rfl, post_put⟩⟩⟩
       , ⟨_, rfl, fun sl hd hr ho => by
         refine g_skip rfl (hd 18 _ rfl rfl rfl) hg59 rfl ?_
         exact awl_nil ⟨rfl, post_put⟩⟩⟩
       , ⟨_, rfl, fun sl hd hr ho => by
         refine g_skip rfl (hd 18 _ rfl rfl rfl) hg59 rfl ?_
         exact awl_nil ⟨rfl, post_put⟩⟩⟩
       , ⟨_, rfl, fun sl hd hr ho => by
         refine g_skip rfl (hd 18 _ rfl rfl rfl) hg59 rfl ?_
         exact awl_nil ⟨rfl, post_put⟩⟩⟩
       (by rfl) ?_
      refine g_skip rfl rfl hg59 rfl ?_
      refine r_pickF rfl hg59 rfl rfl ?_
      refine awl_nil ?_
      refine x_then ?_
      refine awp_condF rfl ?_
      refine awp_skip ?_
      refine x_block ?_
      refine x_then ?_
      refine awp_region ?_
      refine r_move rfl rfl ?_
      refine r_ari _ rfl rfl rfl (wrap_id (by first | omega | (simp; omega))) rfl ?_
      refine r_assign rfl rfl ?_
      refine awl_nil ?_
      refine x_then ?_
      refine ⟨(wentF b a).length - (k + 1), ⟨175, [(0, .a (files a)), (1, .a (files b)), (5, .a (files (onlyS a b))), (6, .a (files (onlyS b a))), (7, .a (.v (.slice (some ⟨b26, 0, none⟩) (wentF b a).length (wentF b a).length))), (8, .own 27 4 (out.map FC.cs)), (9, .own 28 4 (gone.map FC.cs)), (10, .a (.v (.int .i64 ((i : Int))))), (11, .a (.v (.int .i64 (optI ((((wentF b a).zip tk).take (k + 1)).findIdx? (hitZ (hitF a b s))))))), (12, .a (.v (.int .i64 (((k + 1) : Int)))))], [⟨b26, true, .box (tk.map fun x => AV.v (.bool x))⟩]⟩, ⟨rfl, (Slots.cons rfl (by first | exact .refl _ | exact .nilOwn _ _ | exact .nilSl _ | exact .ownSl _ _ _  | exact SV.le.ownEq (by rw [hto]; first | done | rfl) | exact SV.le.of_eq (by rw [hto]; first | done | rfl)) (Slots.cons rfl (by first | exact .refl _ | exact .nilOwn _ _ | exact .nilSl _ | exact .ownSl _ _ _  | exact SV.le.ownEq (by rw [hto]; first | done | rfl) | exact SV.le.of_eq (by rw [hto]; first | done | rfl)) (Slots.cons rfl (by first | exact .refl _ | exact .nilOwn _ _ | exact .nilSl _ | exact .ownSl _ _ _  | exact SV.le.ownEq (by rw [hto]; first | done | rfl) | exact SV.le.of_eq (by rw [hto]; first | done | rfl)) (Slots.cons rfl (by first | exact .refl _ | exact .nilOwn _ _ | exact .nilSl _ | exact .ownSl _ _ _  | exact SV.le.ownEq (by rw [hto]; first | done | rfl) | exact SV.le.of_eq (by rw [hto]; first | done | rfl)) (Slots.cons rfl (by first | exact .refl _ | exact .nilOwn _ _ | exact .nilSl _ | exact .ownSl _ _ _  | exact SV.le.ownEq (by rw [hto]; first | done | rfl) | exact SV.le.of_eq (by rw [hto]; first | done | rfl)) (Slots.cons rfl (by first | exact .refl _ | exact .nilOwn _ _ | exact .nilSl _ | exact .ownSl _ _ _  | exact SV.le.ownEq (by rw [hto]; first | done | rfl) | exact SV.le.of_eq (by rw [hto]; first | done | rfl)) (Slots.cons rfl (by first | exact .refl _ | exact .nilOwn _ _ | exact .nilSl _ | exact .ownSl _ _ _  | exact SV.le.ownEq (by rw [hto]; first | done | rfl) | exact SV.le.of_eq (by rw [hto]; first | done | rfl)) (Slots.cons rfl (by first | exact .refl _ | exact .nilOwn _ _ | exact .nilSl _ | exact .ownSl _ _ _  | exact SV.le.ownEq (by rw [hto]; first | done | rfl) | exact SV.le.of_eq (by rw [hto]; first | done | rfl)) (Slots.cons rfl (by first | exact .refl _ | exact .nilOwn _ _ | exact .nilSl _ | exact .ownSl _ _ _  | exact SV.le.ownEq (by rw [hto]; first | done | rfl) | exact SV.le.of_eq (by rw [hto]; first | done | rfl)) (Slots.cons rfl (by first | exact .refl _ | exact .nilOwn _ _ | exact .nilSl _ | exact .ownSl _ _ _  | exact SV.le.ownEq (by rw [hto]; first | done | rfl) | exact SV.le.of_eq (by rw [hto]; first | done | rfl)) Slots.nil)))))))))), (by first | exact List.Sublist.refl _ | exact .cons_cons _ (.cons _ (.refl _)) | exact List.nil_sublist _ | exact .cons _ (.refl _) | exact .cons _ (.cons _ (.refl _)) | exact .cons _ (.cons _ (.cons _ (.refl _))) | exact .cons _ (.cons _ (.cons _ (.cons _ (.refl _)))) | exact .cons_cons _ (List.nil_sublist _))⟩, (by omega), ⟨k + 1, rfl, rfl, (by omega)⟩⟩
    ·
     have hto := to_miss (q := (hitZ (hitF a b s))) hz (by simp only [hitZ, hg50, Bool.false_and])
     refine awp_drawS [41, 42, 43, 44, 45, 46, 47, 48, 49, 50, 51, 52, 53, 54, 55, 56, 57, 58, 59, 60, 61, 62, 63, 64, 65, 66, 67, 68, 69] [_, _, _, _, _, _, _, _, _, _, _, _, _, _, _, _, _, _, _, _, _, _, _, _, _, _, _, _, _] [] [] TF.mixed rfl rfl rfl ⟨⟨⟨⟨⟨⟨⟨⟨⟨⟨⟨⟨⟨⟨⟨⟨⟨⟨⟨⟨⟨⟨⟨⟨⟨⟨⟨⟨⟨trivial
      , ⟨_, rfl, fun sl hd hr ho => by
        refine r_move (hr 11 _ rfl rfl rfl) rfl ?_
        exact awl_nil ⟨rfl, post_put⟩⟩⟩
      , ⟨_, rfl, fun sl hd hr ho => by
        refine r_cmp (hd 0 _ rfl rfl rfl) rfl rfl rfl ?_
        exact awl_nil ⟨rfl, post_put⟩⟩⟩
      , ⟨_, rfl, fun sl hd hr ho => by
        refine r_move (hd 1 _ rfl rfl rfl) rfl ?_
        exact awl_nil ⟨rfl, post_put⟩⟩⟩
      , ⟨_, rfl, fun sl hd hr ho => by
        refine g_run rfl (hd 2 _ rfl rfl rfl) hg43 ?_
        refine r_move (hr 7 _ rfl rfl rfl) rfl ?_
        exact awl_nil ⟨rfl, post_put⟩⟩⟩
      , ⟨_, rfl, fun sl hd hr ho => by
        refine g_run rfl (hd 2 _ rfl rfl rfl) hg43 ?_
        refine r_move (hr 12 _ rfl rfl rfl) rfl ?_
        exact awl_nil ⟨rfl, post_put⟩⟩⟩
      , ⟨_, rfl, fun sl hd hr ho => by
        refine g_run rfl (hd 2 _ rfl rfl rfl) hg43 ?_
        refine r_indexV (hd 3 _ rfl rfl rfl) (hd 4 _ rfl rfl rfl) TF.sl67 TF.sz4 (by omega) (by omega) rfl ?_
        exact awl_nil ⟨rfl, post_put⟩⟩⟩
      , ⟨_, rfl, fun sl hd hr ho => by
        refine g_run rfl (hd 2 _ rfl rfl rfl) hg43 ?_
        refine r_load1b 0 (hd 5 _ rfl rfl rfl) rfl (tk_get htb) TF.agg4 rfl ?_
        exact awl_nil ⟨rfl, post_put⟩⟩⟩
      , ⟨_, rfl, fun sl hd hr ho => by
        refine g_run rfl (hd 2 _ rfl rfl rfl) hg43 ?_
        refine r_not (hd 6 _ rfl rfl rfl) rfl ?_
        exact awl_nil ⟨rfl, post_put⟩⟩⟩
      , ⟨_, rfl, fun sl hd hr ho => by
        refine r_pickT (hd 2 _ rfl rfl rfl) hg43 (hd 7 _ rfl rfl rfl) rfl ?_
        exact awl_nil ⟨rfl, post_put⟩⟩⟩
      , ⟨_, rfl, fun sl hd hr ho => by
        refine r_move (hd 8 _ rfl rfl rfl) rfl ?_
        exact awl_nil ⟨rfl, post_put⟩⟩⟩
      , ⟨_, rfl, fun sl hd hr ho => by
        refine g_skip rfl (hd 9 _ rfl rfl rfl) hg50 rfl ?_
        exact awl_nil ⟨rfl, post_put⟩⟩⟩
      , ⟨_, rfl, fun sl hd hr ho => by
        refine g_skip rfl (hd 9 _ rfl rfl rfl) hg50 rfl ?_
        exact awl_nil ⟨rfl, post_put⟩⟩⟩
      , ⟨_, rfl, fun sl hd hr ho => by
        refine g_skip rfl (hd 9 _ rfl rfl rfl) hg50 rfl ?_
        exact awl_nil ⟨rfl, post_put⟩⟩⟩
      , ⟨_, rfl, fun sl hd hr ho => by
        refine g_skip rfl (hd 9 _ rfl rfl rfl) hg50 rfl ?_
        exact awl_nil ⟨rfl, post_put⟩⟩⟩
      , ⟨_, rfl, fun sl hd hr ho => by
        refine g_skip rfl (hd 9 _ rfl rfl rfl) hg50 rfl ?_
        exact awl_nil ⟨rfl, post_put⟩⟩⟩
      , ⟨_, rfl, fun sl hd hr ho => by
        refine g_skip rfl (hd 9 _ rfl rfl rfl) hg50 rfl ?_
        exact awl_nil ⟨rfl, post_put⟩⟩⟩
      , ⟨_, rfl, fun sl hd hr ho => by
        refine g_skip rfl (hd 9 _ rfl rfl rfl) hg50 rfl ?_
        exact awl_nil ⟨rfl, post_put⟩⟩⟩
      , ⟨_, rfl, fun sl hd hr ho => by
        refine r_pickF (hd 9 _ rfl rfl rfl) hg50 rfl rfl ?_
        exact awl_nil ⟨rfl, post_put⟩⟩⟩
      , ⟨_, rfl, fun sl hd hr ho => by
        refine r_move (hd 17 _ rfl rfl rfl) rfl ?_
        exact awl_nil ⟨rfl, post_put⟩⟩⟩
      , ⟨_, rfl, fun sl hd hr ho => by
        refine g_skip rfl (hd 18 _ rfl rfl rfl) rfl rfl ?_
        exact awl_nil ⟨rfl, post_put⟩⟩⟩
      , ⟨_, rfl, fun sl hd hr ho => by
        refine g_skip rfl (hd 18 _ rfl rfl rfl) rfl rfl ?_
        exact awl_nil ⟨rfl, post_put⟩⟩⟩
      , ⟨_, rfl, fun sl hd hr ho => by
        refine g_skip rfl (hd 18 _ rfl rfl rfl) rfl rfl ?_
        exact awl_nil ⟨rfl, post_put⟩⟩⟩
      , ⟨_, rfl, fun sl hd hr ho => by
        refine g_skip rfl (hd 18 _ rfl rfl rfl) rfl rfl ?_
        exact awl_nil ⟨rfl, post_put⟩⟩⟩
      , ⟨_, rfl, fun sl hd hr ho => by
        refine g_skip rfl (hd 18 _ rfl rfl rfl) rfl rfl ?_
        exact awl_nil ⟨rfl, post_put⟩⟩⟩
      , ⟨_, rfl, fun sl hd hr ho => by
        refine g_skip rfl (hd 18 _ rfl rfl rfl) rfl rfl ?_
        exact awl_nil ⟨rfl, post_put⟩⟩⟩
      , ⟨_, rfl, fun sl hd hr ho => by
        refine g_skip rfl (hd 18 _ rfl rfl rfl) rfl rfl ?_
        exact awl_nil ⟨rfl, post_put⟩⟩⟩
      , ⟨_, rfl, fun sl hd hr ho => by
        refine g_skip rfl (hd 18 _ rfl rfl rfl) rfl rfl ?_
        exact awl_nil ⟨rfl, post_put⟩⟩⟩
      , ⟨_, rfl, fun sl hd hr ho => by
        refine g_skip rfl (hd 18 _ rfl rfl rfl) rfl rfl ?_
        exact awl_nil ⟨rfl, post_put⟩⟩⟩
      , ⟨_, rfl, fun sl hd hr ho => by
        refine g_skip rfl (hd 18 _ rfl rfl rfl) rfl rfl ?_
        exact awl_nil ⟨rfl, post_put⟩⟩⟩
      (by rfl) ?_
     refine g_skip rfl rfl rfl rfl ?_
     refine r_pickF rfl rfl rfl rfl ?_
     refine awl_nil ?_
     refine x_then ?_
     refine awp_condF rfl ?_
     refine awp_skip ?_
     refine x_block ?_
     refine x_then ?_
     refine awp_region ?_
     refine r_move rfl rfl ?_
     refine r_ari _ rfl rfl rfl (wrap_id (by first | omega | (simp; omega))) rfl ?_
     refine r_assign rfl rfl ?_
     refine awl_nil ?_
     refine x_then ?_
     refine ⟨(wentF b a).length - (k + 1), ⟨175, [(0, .a (files a)), (1, .a (files b)), (5, .a (files (onlyS a b))), (6, .a (files (onlyS b a))), (7, .a (.v (.slice (some ⟨b26, 0, none⟩) (wentF b a).length (wentF b a).length))), (8, .own 27 4 (out.map FC.cs)), (9, .own 28 4 (gone.map FC.cs)), (10, .a (.v (.int .i64 ((i : Int))))), (11, .a (.v (.int .i64 (optI ((((wentF b a).zip tk).take (k + 1)).findIdx? (hitZ (hitF a b s))))))), (12, .a (.v (.int .i64 (((k + 1) : Int)))))], [⟨b26, true, .box (tk.map fun x => AV.v (.bool x))⟩]⟩, ⟨rfl, (Slots.cons rfl (by first | exact .refl _ | exact .nilOwn _ _ | exact .nilSl _ | exact .ownSl _ _ _  | exact SV.le.ownEq (by rw [hto]; first | done | rfl) | exact SV.le.of_eq (by rw [hto]; first | done | rfl)) (Slots.cons rfl (by first | exact .refl _ | exact .nilOwn _ _ | exact .nilSl _ | exact .ownSl _ _ _  | exact SV.le.ownEq (by rw [hto]; first | done | rfl) | exact SV.le.of_eq (by rw [hto]; first | done | rfl)) (Slots.cons rfl (by first | exact .refl _ | exact .nilOwn _ _ | exact .nilSl _ | exact .ownSl _ _ _  | exact SV.le.ownEq (by rw [hto]; first | done | rfl) | exact SV.le.of_eq (by rw [hto]; first | done | rfl)) (Slots.cons rfl (by first | exact .refl _ | exact .nilOwn _ _ | exact .nilSl _ | exact .ownSl _ _ _  | exact SV.le.ownEq (by rw [hto]; first | done | rfl) | exact SV.le.of_eq (by rw [hto]; first | done | rfl)) (Slots.cons rfl (by first | exact .refl _ | exact .nilOwn _ _ | exact .nilSl _ | exact .ownSl _ _ _  | exact SV.le.ownEq (by rw [hto]; first | done | rfl) | exact SV.le.of_eq (by rw [hto]; first | done | rfl)) (Slots.cons rfl (by first | exact .refl _ | exact .nilOwn _ _ | exact .nilSl _ | exact .ownSl _ _ _  | exact SV.le.ownEq (by rw [hto]; first | done | rfl) | exact SV.le.of_eq (by rw [hto]; first | done | rfl)) (Slots.cons rfl (by first | exact .refl _ | exact .nilOwn _ _ | exact .nilSl _ | exact .ownSl _ _ _  | exact SV.le.ownEq (by rw [hto]; first | done | rfl) | exact SV.le.of_eq (by rw [hto]; first | done | rfl)) (Slots.cons rfl (by first | exact .refl _ | exact .nilOwn _ _ | exact .nilSl _ | exact .ownSl _ _ _  | exact SV.le.ownEq (by rw [hto]; first | done | rfl) | exact SV.le.of_eq (by rw [hto]; first | done | rfl)) (Slots.cons rfl (by first | exact .refl _ | exact .nilOwn _ _ | exact .nilSl _ | exact .ownSl _ _ _  | exact SV.le.ownEq (by rw [hto]; first | done | rfl) | exact SV.le.of_eq (by rw [hto]; first | done | rfl)) (Slots.cons rfl (by first | exact .refl _ | exact .nilOwn _ _ | exact .nilSl _ | exact .ownSl _ _ _  | exact SV.le.ownEq (by rw [hto]; first | done | rfl) | exact SV.le.of_eq (by rw [hto]; first | done | rfl)) Slots.nil)))))))))), (by first | exact List.Sublist.refl _ | exact .cons_cons _ (.cons _ (.refl _)) | exact List.nil_sublist _ | exact .cons _ (.refl _) | exact .cons _ (.cons _ (.refl _)) | exact .cons _ (.cons _ (.cons _ (.refl _))) | exact .cons _ (.cons _ (.cons _ (.cons _ (.refl _)))) | exact .cons_cons _ (List.nil_sublist _))⟩, (by omega), ⟨k + 1, rfl, rfl, (by omega)⟩⟩
   ·
    have hto := to_had (q := (hitZ (hitF a b s))) hz (fun h => by rw [decide_eq_true h] at hg43; cases hg43)
    refine awp_drawS [41, 42, 43, 44, 45, 46, 47, 48, 49, 50, 51, 52, 53, 54, 55, 56, 57, 58, 59, 60, 61, 62, 63, 64, 65, 66, 67, 68, 69] [_, _, _, _, _, _, _, _, _, _, _, _, _, _, _, _, _, _, _, _, _, _, _, _, _, _, _, _, _] [] [] TF.mixed rfl rfl rfl ⟨⟨⟨⟨⟨⟨⟨⟨⟨⟨⟨⟨⟨⟨⟨⟨⟨⟨⟨⟨⟨⟨⟨⟨⟨⟨⟨⟨⟨trivial
     , ⟨_, rfl, fun sl hd hr ho => by
       refine r_move (hr 11 _ rfl rfl rfl) rfl ?_
       exact awl_nil ⟨rfl, post_put⟩⟩⟩
     , ⟨_, rfl, fun sl hd hr ho => by
       refine r_cmp (hd 0 _ rfl rfl rfl) rfl rfl rfl ?_
       exact awl_nil ⟨rfl, post_put⟩⟩⟩
     , ⟨_, rfl, fun sl hd hr ho => by
       refine r_move (hd 1 _ rfl rfl rfl) rfl ?_
       exact awl_nil ⟨rfl, post_put⟩⟩⟩
     , ⟨_, rfl, fun sl hd hr ho => by
       refine g_skip rfl (hd 2 _ rfl rfl rfl) hg43 rfl ?_
       exact awl_nil ⟨rfl, post_put⟩⟩⟩
     , ⟨_, rfl, fun sl hd hr ho => by
       refine g_skip rfl (hd 2 _ rfl rfl rfl) hg43 rfl ?_
       exact awl_nil ⟨rfl, post_put⟩⟩⟩
     , ⟨_, rfl, fun sl hd hr ho => by
       refine g_skip rfl (hd 2 _ rfl rfl rfl) hg43 rfl ?_
       exact awl_nil ⟨rfl, post_put⟩⟩⟩
     , ⟨_, rfl, fun sl hd hr ho => by
       refine g_skip rfl (hd 2 _ rfl rfl rfl) hg43 rfl ?_
       exact awl_nil ⟨rfl, post_put⟩⟩⟩
     , ⟨_, rfl, fun sl hd hr ho => by
       refine g_skip rfl (hd 2 _ rfl rfl rfl) hg43 rfl ?_
       exact awl_nil ⟨rfl, post_put⟩⟩⟩
     , ⟨_, rfl, fun sl hd hr ho => by
       refine r_pickF (hd 2 _ rfl rfl rfl) hg43 rfl rfl ?_
       exact awl_nil ⟨rfl, post_put⟩⟩⟩
     , ⟨_, rfl, fun sl hd hr ho => by
       refine r_move (hd 8 _ rfl rfl rfl) rfl ?_
       exact awl_nil ⟨rfl, post_put⟩⟩⟩
     , ⟨_, rfl, fun sl hd hr ho => by
       refine g_skip rfl (hd 9 _ rfl rfl rfl) rfl rfl ?_
       exact awl_nil ⟨rfl, post_put⟩⟩⟩
     , ⟨_, rfl, fun sl hd hr ho => by
       refine g_skip rfl (hd 9 _ rfl rfl rfl) rfl rfl ?_
       exact awl_nil ⟨rfl, post_put⟩⟩⟩
     , ⟨_, rfl, fun sl hd hr ho => by
       refine g_skip rfl (hd 9 _ rfl rfl rfl) rfl rfl ?_
       exact awl_nil ⟨rfl, post_put⟩⟩⟩
     , ⟨_, rfl, fun sl hd hr ho => by
       refine g_skip rfl (hd 9 _ rfl rfl rfl) rfl rfl ?_
       exact awl_nil ⟨rfl, post_put⟩⟩⟩
     , ⟨_, rfl, fun sl hd hr ho => by
       refine g_skip rfl (hd 9 _ rfl rfl rfl) rfl rfl ?_
       exact awl_nil ⟨rfl, post_put⟩⟩⟩
     , ⟨_, rfl, fun sl hd hr ho => by
       refine g_skip rfl (hd 9 _ rfl rfl rfl) rfl rfl ?_
       exact awl_nil ⟨rfl, post_put⟩⟩⟩
     , ⟨_, rfl, fun sl hd hr ho => by
       refine g_skip rfl (hd 9 _ rfl rfl rfl) rfl rfl ?_
       exact awl_nil ⟨rfl, post_put⟩⟩⟩
     , ⟨_, rfl, fun sl hd hr ho => by
       refine r_pickF (hd 9 _ rfl rfl rfl) rfl rfl rfl ?_
       exact awl_nil ⟨rfl, post_put⟩⟩⟩
     , ⟨_, rfl, fun sl hd hr ho => by
       refine r_move (hd 17 _ rfl rfl rfl) rfl ?_
       exact awl_nil ⟨rfl, post_put⟩⟩⟩
     , ⟨_, rfl, fun sl hd hr ho => by
       refine g_skip rfl (hd 18 _ rfl rfl rfl) rfl rfl ?_
       exact awl_nil ⟨rfl, post_put⟩⟩⟩
     , ⟨_, rfl, fun sl hd hr ho => by
       refine g_skip rfl (hd 18 _ rfl rfl rfl) rfl rfl ?_
       exact awl_nil ⟨rfl, post_put⟩⟩⟩
     , ⟨_, rfl, fun sl hd hr ho => by
       refine g_skip rfl (hd 18 _ rfl rfl rfl) rfl rfl ?_
       exact awl_nil ⟨rfl, post_put⟩⟩⟩
     , ⟨_, rfl, fun sl hd hr ho => by
       refine g_skip rfl (hd 18 _ rfl rfl rfl) rfl rfl ?_
       exact awl_nil ⟨rfl, post_put⟩⟩⟩
     , ⟨_, rfl, fun sl hd hr ho => by
       refine g_skip rfl (hd 18 _ rfl rfl rfl) rfl rfl ?_
       exact awl_nil ⟨rfl, post_put⟩⟩⟩
     , ⟨_, rfl, fun sl hd hr ho => by
       refine g_skip rfl (hd 18 _ rfl rfl rfl) rfl rfl ?_
       exact awl_nil ⟨rfl, post_put⟩⟩⟩
     , ⟨_, rfl, fun sl hd hr ho => by
       refine g_skip rfl (hd 18 _ rfl rfl rfl) rfl rfl ?_
       exact awl_nil ⟨rfl, post_put⟩⟩⟩
     , ⟨_, rfl, fun sl hd hr ho => by
       refine g_skip rfl (hd 18 _ rfl rfl rfl) rfl rfl ?_
       exact awl_nil ⟨rfl, post_put⟩⟩⟩
     , ⟨_, rfl, fun sl hd hr ho => by
       refine g_skip rfl (hd 18 _ rfl rfl rfl) rfl rfl ?_
       exact awl_nil ⟨rfl, post_put⟩⟩⟩
     , ⟨_, rfl, fun sl hd hr ho => by
       refine g_skip rfl (hd 18 _ rfl rfl rfl) rfl rfl ?_
       exact awl_nil ⟨rfl, post_put⟩⟩⟩
     (by rfl) ?_
    refine g_skip rfl rfl rfl rfl ?_
    refine r_pickF rfl rfl rfl rfl ?_
    refine awl_nil ?_
    refine x_then ?_
    refine awp_condF rfl ?_
    refine awp_skip ?_
    refine x_block ?_
    refine x_then ?_
    refine awp_region ?_
    refine r_move rfl rfl ?_
    refine r_ari _ rfl rfl rfl (wrap_id (by first | omega | (simp; omega))) rfl ?_
    refine r_assign rfl rfl ?_
    refine awl_nil ?_
    refine x_then ?_
    refine ⟨(wentF b a).length - (k + 1), ⟨175, [(0, .a (files a)), (1, .a (files b)), (5, .a (files (onlyS a b))), (6, .a (files (onlyS b a))), (7, .a (.v (.slice (some ⟨b26, 0, none⟩) (wentF b a).length (wentF b a).length))), (8, .own 27 4 (out.map FC.cs)), (9, .own 28 4 (gone.map FC.cs)), (10, .a (.v (.int .i64 ((i : Int))))), (11, .a (.v (.int .i64 (optI ((((wentF b a).zip tk).take (k + 1)).findIdx? (hitZ (hitF a b s))))))), (12, .a (.v (.int .i64 (((k + 1) : Int)))))], [⟨b26, true, .box (tk.map fun x => AV.v (.bool x))⟩]⟩, ⟨rfl, (Slots.cons rfl (by first | exact .refl _ | exact .nilOwn _ _ | exact .nilSl _ | exact .ownSl _ _ _  | exact SV.le.ownEq (by rw [hto]; first | done | rfl) | exact SV.le.of_eq (by rw [hto]; first | done | rfl)) (Slots.cons rfl (by first | exact .refl _ | exact .nilOwn _ _ | exact .nilSl _ | exact .ownSl _ _ _  | exact SV.le.ownEq (by rw [hto]; first | done | rfl) | exact SV.le.of_eq (by rw [hto]; first | done | rfl)) (Slots.cons rfl (by first | exact .refl _ | exact .nilOwn _ _ | exact .nilSl _ | exact .ownSl _ _ _  | exact SV.le.ownEq (by rw [hto]; first | done | rfl) | exact SV.le.of_eq (by rw [hto]; first | done | rfl)) (Slots.cons rfl (by first | exact .refl _ | exact .nilOwn _ _ | exact .nilSl _ | exact .ownSl _ _ _  | exact SV.le.ownEq (by rw [hto]; first | done | rfl) | exact SV.le.of_eq (by rw [hto]; first | done | rfl)) (Slots.cons rfl (by first | exact .refl _ | exact .nilOwn _ _ | exact .nilSl _ | exact .ownSl _ _ _  | exact SV.le.ownEq (by rw [hto]; first | done | rfl) | exact SV.le.of_eq (by rw [hto]; first | done | rfl)) (Slots.cons rfl (by first | exact .refl _ | exact .nilOwn _ _ | exact .nilSl _ | exact .ownSl _ _ _  | exact SV.le.ownEq (by rw [hto]; first | done | rfl) | exact SV.le.of_eq (by rw [hto]; first | done | rfl)) (Slots.cons rfl (by first | exact .refl _ | exact .nilOwn _ _ | exact .nilSl _ | exact .ownSl _ _ _  | exact SV.le.ownEq (by rw [hto]; first | done | rfl) | exact SV.le.of_eq (by rw [hto]; first | done | rfl)) (Slots.cons rfl (by first | exact .refl _ | exact .nilOwn _ _ | exact .nilSl _ | exact .ownSl _ _ _  | exact SV.le.ownEq (by rw [hto]; first | done | rfl) | exact SV.le.of_eq (by rw [hto]; first | done | rfl)) (Slots.cons rfl (by first | exact .refl _ | exact .nilOwn _ _ | exact .nilSl _ | exact .ownSl _ _ _  | exact SV.le.ownEq (by rw [hto]; first | done | rfl) | exact SV.le.of_eq (by rw [hto]; first | done | rfl)) (Slots.cons rfl (by first | exact .refl _ | exact .nilOwn _ _ | exact .nilSl _ | exact .ownSl _ _ _  | exact SV.le.ownEq (by rw [hto]; first | done | rfl) | exact SV.le.of_eq (by rw [hto]; first | done | rfl)) Slots.nil)))))))))), (by first | exact List.Sublist.refl _ | exact .cons_cons _ (.cons _ (.refl _)) | exact List.nil_sublist _ | exact .cons _ (.refl _) | exact .cons _ (.cons _ (.refl _)) | exact .cons _ (.cons _ (.cons _ (.refl _))) | exact .cons _ (.cons _ (.cons _ (.cons _ (.refl _)))) | exact .cons_cons _ (List.nil_sublist _))⟩, (by omega), ⟨k + 1, rfl, rfl, (by omega)⟩⟩
  ·
   have hgek : (wentF b a).length ≤ k := by have := of_decide_eq_false hc1; simp [onlyS] at this; omega
   have hzl : ((wentF b a).zip tk).take k = ((wentF b a).zip tk) := List.take_of_length_le (by simp; omega)
   rw [hzl]
   refine awp_exit ?_
   refine x_thenE ?_
   refine x_thenE ?_
   refine x_blockE ?_
   refine x_then ?_
   refine awp_seq ?_
   refine awp_region ?_
   refine r_move rfl rfl ?_
   refine r_cmp rfl rfl rfl rfl ?_
   refine awl_nil ?_
   refine x_then ?_
   refine awp_cond rfl (fun hc3 => ?_) (fun hc3 => ?_)
   ·
    obtain ⟨k, hkk⟩ := optI_some (of_decide_eq_true hc3)
    obtain ⟨i0, t0, hf1, hf2, hf3, hf4⟩ := keep_some hkk
    have hok : optI (((wentF b a).zip tk).findIdx? (hitZ (hitF a b s))) = (k : Int) := by rw [hkk]; rfl
    rw [hok]
    have hkl := (List.getElem?_eq_some_iff.1 hf3).1
    have holl := only_len b a
    refine awp_seq ?_
    refine awp_region ?_
    refine r_move rfl rfl ?_
    refine r_move rfl rfl ?_
    refine r_indexV rfl rfl TF.sl67 TF.sz4 (by omega) (by omega) rfl ?_
    refine r_store 0 rfl rfl rfl TF.sz4 rfl (by simp; omega) rfl ?_
    refine awl_nil ?_
    refine x_then ?_
    refine awp_drawS [78, 79, 80, 81, 82, 83, 84, 85, 86, 87, 88, 89, 90] [_, _, _, _, _, _, _, _, _, _, _, _, _] [] [(12, 90)] TF.mixed rfl rfl rfl ⟨⟨⟨⟨⟨⟨⟨⟨⟨⟨⟨⟨⟨trivial
     , ⟨_, rfl, fun sl hd hr ho => by
       refine r_move (hr 8 _ rfl rfl rfl) rfl ?_
       exact awl_nil ⟨rfl, post_put⟩⟩⟩
     , ⟨_, rfl, fun sl hd hr ho => by
       refine r_move (hr 5 _ rfl rfl rfl) rfl ?_
       exact awl_nil ⟨rfl, post_put⟩⟩⟩
     , ⟨_, rfl, fun sl hd hr ho => by
       refine r_move (hr 10 _ rfl rfl rfl) rfl ?_
       exact awl_nil ⟨rfl, post_put⟩⟩⟩
     , ⟨_, rfl, fun sl hd hr ho => by
       refine r_index (hd 1 _ rfl rfl rfl) rfl (hd 2 _ rfl rfl rfl) TF.sl22 TF.sz54 (by omega) (get_map (only_get hs)) rfl ?_
       exact awl_nil ⟨rfl, post_put⟩⟩⟩
     , ⟨_, rfl, fun sl hd hr ho => by
       first | (refine r_fieldcp (hd 3 _ rfl rfl rfl) TF.f54_0 TF.sz9 rfl ?_) | (refine r_fieldb (hd 3 _ rfl rfl rfl) TF.f54_0 TF.sz9 rfl ?_)
       exact awl_nil ⟨rfl, post_put⟩⟩⟩
     , ⟨_, rfl, fun sl hd hr ho => by
       first | (refine r_load1 (hd 4 _ rfl rfl rfl) TF.agg9 rfl ?_) | (refine r_load1b 0 (hd 4 _ rfl rfl rfl) rfl rfl TF.agg9 rfl ?_)
       exact awl_nil ⟨rfl, post_put⟩⟩⟩
     , ⟨_, rfl, fun sl hd hr ho => by
       refine r_move (hr 6 _ rfl rfl rfl) rfl ?_
       exact awl_nil ⟨rfl, post_put⟩⟩⟩
     , ⟨_, rfl, fun sl hd hr ho => by
       refine r_move (hr 11 _ rfl rfl rfl) rfl ?_
       exact awl_nil ⟨rfl, post_put⟩⟩⟩
     , ⟨_, rfl, fun sl hd hr ho => by
       refine r_index (hd 6 _ rfl rfl rfl) rfl (hd 7 _ rfl rfl rfl) TF.sl22 TF.sz54 (by omega) (get_map (only_get hf3)) rfl ?_
       exact awl_nil ⟨rfl, post_put⟩⟩⟩
     , ⟨_, rfl, fun sl hd hr ho => by
       first | (refine r_fieldcp (hd 8 _ rfl rfl rfl) TF.f54_0 TF.sz9 rfl ?_) | (refine r_fieldb (hd 8 _ rfl rfl rfl) TF.f54_0 TF.sz9 rfl ?_)
       exact awl_nil ⟨rfl, post_put⟩⟩⟩
     , ⟨_, rfl, fun sl hd hr ho => by
       first | (refine r_load1 (hd 9 _ rfl rfl rfl) TF.agg9 rfl ?_) | (refine r_load1b 0 (hd 9 _ rfl rfl rfl) rfl rfl TF.agg9 rfl ?_)
       exact awl_nil ⟨rfl, post_put⟩⟩⟩
     , ⟨_, rfl, fun sl hd hr ho => by
       refine r_build (parts := [(0, .const ((Go.Value.int Go.IntKind.i64 4))), (1, .tmp 83), (2, .tmp 88)]) rfl TF.pl36 TF.zero36 (parts_cons rfl (parts_cons (hd 5 _ rfl rfl rfl) (parts_cons (hd 10 _ rfl rfl rfl) parts_nil))) rfl rfl ?_
       exact awl_nil ⟨rfl, post_put⟩⟩⟩
     , ⟨_, rfl, fun sl hd hr ho => by
       refine r_lit 90 (parts := [(0, .tmp 89)]) rfl TF.sl30 TF.sz36 TF.zraw36 rfl rfl (parts_cons (hd 11 _ rfl rfl rfl) parts_nil) rfl rfl rfl rfl ?_
       exact awl_nil ⟨rfl, (post_dem (ho 90 (List.mem_of_elem_eq_true rfl)))⟩⟩⟩
     (by rfl) ?_
    refine r_append 27 rfl (by first | exact .own _ | exact .nil) rfl (by first | exact .sl _ | exact .own _ _ | exact .nil) TF.sl30 TF.sz36 (by decide) TF.by36 TF.zlen36 (by simp [chunks] <;> omega) (by simp [chunks] <;> omega) rfl ?_
    refine r_assign rfl rfl ?_
    refine awl_nil ?_
    refine x_block ?_
    refine x_then ?_
    refine awp_region ?_
    refine r_move rfl rfl ?_
    refine r_ari _ rfl rfl rfl (wrap_id (by first | omega | (simp; omega))) rfl ?_
    refine r_assign rfl rfl ?_
    refine awl_nil ?_
    refine x_then ?_
    refine ⟨(wentF a b).length - (i + 1), ⟨175, [(0, .a (files a)), (1, .a (files b)), (5, .a (files (onlyS a b))), (6, .a (files (onlyS b a))), (7, .a (.v (.slice (some ⟨b26, 0, none⟩) (wentF b a).length (wentF b a).length))), (8, .own 27 4 ((out ++ [(⟨4, s, t0, []⟩ : FC)]).map FC.cs)), (9, .own 28 4 ((gone).map FC.cs)), (10, .a (.v (.int .i64 (((i + 1) : Int)))))], [⟨b26, true, .box ((tk.set k true).map fun x => AV.v (.bool x))⟩]⟩, ⟨rfl, (Slots.cons rfl (by first | exact .refl _ | exact .nilOwn _ _ | exact .nilSl _ | exact .ownSl _ _ _  | exact SV.le.ownEq (by first | rfl | (rw [List.map_append]; rfl)) | exact SV.le.of_eq (by first | rfl | (rw [List.map_append]; rfl))) (Slots.cons rfl (by first | exact .refl _ | exact .nilOwn _ _ | exact .nilSl _ | exact .ownSl _ _ _  | exact SV.le.ownEq (by first | rfl | (rw [List.map_append]; rfl)) | exact SV.le.of_eq (by first | rfl | (rw [List.map_append]; rfl))) (Slots.cons rfl (by first | exact .refl _ | exact .nilOwn _ _ | exact .nilSl _ | exact .ownSl _ _ _  | exact SV.le.ownEq (by first | rfl | (rw [List.map_append]; rfl)) | exact SV.le.of_eq (by first | rfl | (rw [List.map_append]; rfl))) (Slots.cons rfl (by first | exact .refl _ | exact .nilOwn _ _ | exact .nilSl _ | exact .ownSl _ _ _  | exact SV.le.ownEq (by first | rfl | (rw [List.map_append]; rfl)) | exact SV.le.of_eq (by first | rfl | (rw [List.map_append]; rfl))) (Slots.cons rfl (by first | exact .refl _ | exact .nilOwn _ _ | exact .nilSl _ | exact .ownSl _ _ _  | exact SV.le.ownEq (by first | rfl | (rw [List.map_append]; rfl)) | exact SV.le.of_eq (by first | rfl | (rw [List.map_append]; rfl))) (Slots.cons rfl (by first | exact .refl _ | exact .nilOwn _ _ | exact .nilSl _ | exact .ownSl _ _ _  | exact SV.le.ownEq (by first | rfl | (rw [List.map_append]; rfl)) | exact SV.le.of_eq (by first | rfl | (rw [List.map_append]; rfl))) (Slots.cons rfl (by first | exact .refl _ | exact .nilOwn _ _ | exact .nilSl _ | exact .ownSl _ _ _  | exact SV.le.ownEq (by first | rfl | (rw [List.map_append]; rfl)) | exact SV.le.of_eq (by first | rfl | (rw [List.map_append]; rfl))) (Slots.cons rfl (by first | exact .refl _ | exact .nilOwn _ _ | exact .nilSl _ | exact .ownSl _ _ _  | exact SV.le.ownEq (by first | rfl | (rw [List.map_append]; rfl)) | exact SV.le.of_eq (by first | rfl | (rw [List.map_append]; rfl))) Slots.nil)))))))), (by rw [← tk_set (k := k) (by omega)]; exact List.Sublist.refl _)⟩, (by omega), ⟨i + 1, out ++ [(⟨4, s, t0, []⟩ : FC)], gone, tk.set k true, rfl, rfl, (by omega), (by simpa using htl), (by rw [hf4]; exact split_some hs hst hf1 hf2), (by simp; omega), (by omega)⟩⟩
   ·
    have hno : (keepB (wentF b a) tk).findIdx? (hitF a b s) = none := keep_none (optI_none (by have := of_decide_eq_false hc3; omega))
    refine awp_region ?_
    refine r_move rfl rfl ?_
    refine r_move rfl rfl ?_
    refine r_move rfl rfl ?_
    refine r_index rfl rfl rfl TF.sl22 TF.sz54 (by omega) (get_map (only_get hs)) rfl ?_
    first | (refine r_fieldcp rfl TF.f54_0 TF.sz9 rfl ?_) | (refine r_fieldb rfl TF.f54_0 TF.sz9 rfl ?_)
    first | (refine r_load1 rfl TF.agg9 rfl ?_) | (refine r_load1b 0 rfl rfl rfl TF.agg9 rfl ?_)
    refine r_build (parts := [(0, .const ((Go.Value.int Go.IntKind.i64 2))), (1, .tmp 97)]) rfl TF.pl36 TF.zero36 rfl rfl rfl ?_
    refine r_lit 99 (parts := [(0, .tmp 98)]) rfl TF.sl30 TF.sz36 TF.zraw36 rfl rfl rfl rfl rfl rfl rfl ?_
    refine r_append 28 rfl (by first | exact .own _ | exact .nil) rfl (by first | exact .sl _ | exact .own _ _ | exact .nil) TF.sl30 TF.sz36 (by decide) TF.by36 TF.zlen36 (by simp [chunks] <;> omega) (by simp [chunks] <;> omega) rfl ?_
    refine r_assign rfl rfl ?_
    refine awl_nil ?_
    refine x_block ?_
    refine x_then ?_
    refine awp_region ?_
    refine r_move rfl rfl ?_
    refine r_ari _ rfl rfl rfl (wrap_id (by first | omega | (simp; omega))) rfl ?_
    refine r_assign rfl rfl ?_
    refine awl_nil ?_
    refine x_then ?_
    refine ⟨(wentF a b).length - (i + 1), ⟨175, [(0, .a (files a)), (1, .a (files b)), (5, .a (files (onlyS a b))), (6, .a (files (onlyS b a))), (7, .a (.v (.slice (some ⟨b26, 0, none⟩) (wentF b a).length (wentF b a).length))), (8, .own 27 4 ((out).map FC.cs)), (9, .own 28 4 ((gone ++ [(⟨2, s, E0, []⟩ : FC)]).map FC.cs)), (10, .a (.v (.int .i64 (((i + 1) : Int)))))], [⟨b26, true, .box ((tk).map fun x => AV.v (.bool x))⟩]⟩, ⟨rfl, (Slots.cons rfl (by first | exact .refl _ | exact .nilOwn _ _ | exact .nilSl _ | exact .ownSl _ _ _  | exact SV.le.ownEq (by first | rfl | (rw [List.map_append]; rfl)) | exact SV.le.of_eq (by first | rfl | (rw [List.map_append]; rfl))) (Slots.cons rfl (by first | exact .refl _ | exact .nilOwn _ _ | exact .nilSl _ | exact .ownSl _ _ _  | exact SV.le.ownEq (by first | rfl | (rw [List.map_append]; rfl)) | exact SV.le.of_eq (by first | rfl | (rw [List.map_append]; rfl))) (Slots.cons rfl (by first | exact .refl _ | exact .nilOwn _ _ | exact .nilSl _ | exact .ownSl _ _ _  | exact SV.le.ownEq (by first | rfl | (rw [List.map_append]; rfl)) | exact SV.le.of_eq (by first | rfl | (rw [List.map_append]; rfl))) (Slots.cons rfl (by first | exact .refl _ | exact .nilOwn _ _ | exact .nilSl _ | exact .ownSl _ _ _  | exact SV.le.ownEq (by first | rfl | (rw [List.map_append]; rfl)) | exact SV.le.of_eq (by first | rfl | (rw [List.map_append]; rfl))) (Slots.cons rfl (by first | exact .refl _ | exact .nilOwn _ _ | exact .nilSl _ | exact .ownSl _ _ _  | exact SV.le.ownEq (by first | rfl | (rw [List.map_append]; rfl)) | exact SV.le.of_eq (by first | rfl | (rw [List.map_append]; rfl))) (Slots.cons rfl (by first | exact .refl _ | exact .nilOwn _ _ | exact .nilSl _ | exact .ownSl _ _ _  | exact SV.le.ownEq (by first | rfl | (rw [List.map_append]; rfl)) | exact SV.le.of_eq (by first | rfl | (rw [List.map_append]; rfl))) (Slots.cons rfl (by first | exact .refl _ | exact .nilOwn _ _ | exact .nilSl _ | exact .ownSl _ _ _  | exact SV.le.ownEq (by first | rfl | (rw [List.map_append]; rfl)) | exact SV.le.of_eq (by first | rfl | (rw [List.map_append]; rfl))) (Slots.cons rfl (by first | exact .refl _ | exact .nilOwn _ _ | exact .nilSl _ | exact .ownSl _ _ _  | exact SV.le.ownEq (by first | rfl | (rw [List.map_append]; rfl)) | exact SV.le.of_eq (by first | rfl | (rw [List.map_append]; rfl))) Slots.nil)))))))), (by first | exact List.Sublist.refl _ | exact .cons_cons _ (.cons _ (.refl _)) | exact List.nil_sublist _ | exact .cons _ (.refl _) | exact .cons _ (.cons _ (.refl _)) | exact .cons _ (.cons _ (.cons _ (.refl _))) | exact .cons _ (.cons _ (.cons _ (.cons _ (.refl _)))) | exact .cons_cons _ (List.nil_sublist _))⟩, (by omega), ⟨i + 1, out, gone ++ [(⟨2, s, E0, []⟩ : FC)], tk, rfl, rfl, (by omega), htl, (split_none hs hst hno), (by omega), (by simp; omega)⟩⟩
 ·
  have hgei : (wentF a b).length ≤ i := by have := of_decide_eq_false hc0; simp [onlyS] at this; omega
  obtain rfl : i = (wentF a b).length := by omega
  refine awp_exit ?_
  refine x_thenE ?_
  refine x_thenE ?_
  refine x_blockE ?_
  refine x_then ?_
  refine awp_seq ?_
  refine awp_region ?_
  refine r_move rfl rfl ?_
  refine r_move rfl rfl ?_
  refine r_append 27 rfl (by first | exact .own _ | exact .nil) rfl (by first | exact .sl _ | exact .own _ _ | exact .nil) TF.sl30 TF.sz36 (by decide) TF.by36 TF.zlen36 (by simp [chunks] <;> omega) (by simp [chunks] <;> omega) rfl ?_
  refine r_assign rfl rfl ?_
  refine awl_nil ?_
  refine x_then ?_
  refine awp_seq ?_
  refine awp_region ?_
  refine r_move rfl rfl ?_
  refine r_call0 hq rfl rfl (.cons (.ev rfl rfl) .nil) (rclean_ok a hla) rfl TF.en21 rfl (fun r hr => ?_)
  obtain rfl := hr
  refine r_assign rfl rfl ?_
  refine awl_nil ?_
  refine x_then ?_
  refine awp_seq ?_
  refine awp_seq ?_
  refine awp_region ?_
  refine r_assign rfl rfl ?_
  refine awl_nil ?_
  refine x_then ?_
  refine awp_block ?_
  refine awp_loop (fun nn0 S => ∃ k : Nat, S = ⟨175, [(1, .a (files b)), (6, .a (files (onlyS b a))), (7, .a (.v (.slice (some ⟨b26, 0, none⟩) (wentF b a).length (wentF b a).length))), (13, .own 27 4 (((out ++ gone) ++ ((namesF a).take k).filterMap (chgF a b)).map FC.cs)), (14, .a (files (cleanS a))), (15, .a (.v (.int .i64 ((k : Int)))))], [⟨b26, true, .box (tk.map fun x => AV.v (.bool x))⟩]⟩ ∧ nn0 = (namesF a).length - k ∧ (k ≤ (namesF a).length)) ((namesF a).length - (0)) ⟨175, [(1, .a (files b)), (6, .a (files (onlyS b a))), (7, .a (.v (.slice (some ⟨b26, 0, none⟩) (wentF b a).length (wentF b a).length))), (13, .own 27 4 (((out ++ gone) ++ ((namesF a).take (0)).filterMap (chgF a b)).map FC.cs)), (14, .a (files (cleanS a))), (15, .a (.v (.int .i64 (((0) : Int)))))], [⟨b26, true, .box (tk.map fun x => AV.v (.bool x))⟩]⟩ ⟨rfl, (Slots.cons rfl (by first | exact .refl _ | exact .nilOwn _ _ | exact .nilSl _ | exact .ownSl _ _ _  | exact SV.le.ownEq (by simp) | exact SV.le.of_eq (by simp)) (Slots.cons rfl (by first | exact .refl _ | exact .nilOwn _ _ | exact .nilSl _ | exact .ownSl _ _ _  | exact SV.le.ownEq (by simp) | exact SV.le.of_eq (by simp)) (Slots.cons rfl (by first | exact .refl _ | exact .nilOwn _ _ | exact .nilSl _ | exact .ownSl _ _ _  | exact SV.le.ownEq (by simp) | exact SV.le.of_eq (by simp)) (Slots.cons rfl (by first | exact .refl _ | exact .nilOwn _ _ | exact .nilSl _ | exact .ownSl _ _ _  | exact SV.le.ownEq (by simp) | exact SV.le.of_eq (by simp)) (Slots.cons rfl (by first | exact .refl _ | exact .nilOwn _ _ | exact .nilSl _ | exact .ownSl _ _ _  | exact SV.le.ownEq (by simp) | exact SV.le.of_eq (by simp)) (Slots.cons rfl (by first | exact .refl _ | exact .nilOwn _ _ | exact .nilSl _ | exact .ownSl _ _ _  | exact SV.le.ownEq (by simp) | exact SV.le.of_eq (by simp)) Slots.nil)))))), (by first | exact List.Sublist.refl _ | exact .cons_cons _ (.cons _ (.refl _)) | exact List.nil_sublist _ | exact .cons _ (.refl _) | exact .cons _ (.cons _ (.refl _)) | exact .cons _ (.cons _ (.cons _ (.refl _))) | exact .cons _ (.cons _ (.cons _ (.cons _ (.refl _)))) | exact .cons_cons _ (List.nil_sublist _))⟩ ⟨0, rfl, rfl, Nat.zero_le _⟩ ?_
  rintro nn0 _ ⟨k, rfl, rfl, hk⟩
  refine awp_seq ?_
  refine awp_seq ?_
  refine awp_region ?_
  refine r_move rfl rfl ?_
  refine r_move rfl rfl ?_
  first | (refine r_lenS rfl rfl TF.sl22 rfl ?_) | (refine r_lenNil rfl TF.sl22 rfl ?_) | (refine r_lenV rfl TF.sl22 rfl ?_)
  refine r_cmp rfl rfl rfl rfl ?_
  refine awl_nil ?_
  refine x_then ?_
  refine awp_cond rfl (fun hc4 => ?_) (fun hc4 => ?_)
  ·
   have hltk : k < (namesF a).length := by have := of_decide_eq_true hc4; simp [clean_map] at this; omega
   obtain ⟨x, hx⟩ := get_lt hltk
   have hf1 : (((namesF a).take k).filterMap (chgF a b)).length ≤ k := Nat.le_trans (List.length_filterMap_le _ _) (by simp; omega)
   refine awp_skip ?_
   refine x_then ?_
   refine awp_seq ?_
   refine awp_block ?_
   refine awp_seq ?_
   refine awp_region ?_
   refine r_move rfl rfl ?_
   refine r_move rfl rfl ?_
   refine r_move rfl rfl ?_
   refine r_index rfl rfl rfl TF.sl22 TF.sz54 (by omega) (get_map (clean_get hx)) rfl ?_
   first | (refine r_fieldcp rfl TF.f54_0 TF.sz9 rfl ?_) | (refine r_fieldb rfl TF.f54_0 TF.sz9 rfl ?_)
   first | (refine r_load1 rfl TF.agg9 rfl ?_) | (refine r_load1b 0 rfl rfl rfl TF.agg9 rfl ?_)
   refine r_call0 hq rfl rfl (.cons (.ev rfl rfl) (.cons (.ev rfl rfl) .nil)) (find_ok b x (by omega)) rfl TF.en33 rfl (fun r hr => ?_)
   obtain rfl := hr
   rcases hfo : b.findIdx? (fun f => decide (f.name = x)) with _ | iy
   ·
    rw [hfo]
    have hlk := find_none_look hfo
    have ht : chgF a b x = none := by rw [chgF, hlk]
    refine r_assign rfl rfl ?_
    refine awl_nil ?_
    refine x_then ?_
    refine awp_seq ?_
    refine awp_drawS [119, 120, 121, 122, 123, 124, 125, 126, 127, 128, 129, 130, 131] [_, _, _, _, _, _, _, _, _, _, _, _, _] [] [] TF.mixed rfl rfl rfl ⟨⟨⟨⟨⟨⟨⟨⟨⟨⟨⟨⟨⟨trivial
     , ⟨_, rfl, fun sl hd hr ho => by
       refine r_move (hr 16 _ rfl rfl rfl) rfl ?_
       exact awl_nil ⟨rfl, post_put⟩⟩⟩
     , ⟨_, rfl, fun sl hd hr ho => by
       refine r_cmp (hd 0 _ rfl rfl rfl) rfl rfl rfl ?_
       exact awl_nil ⟨rfl, post_put⟩⟩⟩
     , ⟨_, rfl, fun sl hd hr ho => by
       refine r_move (hd 1 _ rfl rfl rfl) rfl ?_
       exact awl_nil ⟨rfl, post_put⟩⟩⟩
     , ⟨_, rfl, fun sl hd hr ho => by
       refine g_skip rfl (hd 2 _ rfl rfl rfl) rfl rfl ?_
       exact awl_nil ⟨rfl, post_put⟩⟩⟩
     , ⟨_, rfl, fun sl hd hr ho => by
       refine g_skip rfl (hd 2 _ rfl rfl rfl) rfl rfl ?_
       exact awl_nil ⟨rfl, post_put⟩⟩⟩
     , ⟨_, rfl, fun sl hd hr ho => by
       refine g_skip rfl (hd 2 _ rfl rfl rfl) rfl rfl ?_
       exact awl_nil ⟨rfl, post_put⟩⟩⟩
     , ⟨_, rfl, fun sl hd hr ho => by
       refine g_skip rfl (hd 2 _ rfl rfl rfl) rfl rfl ?_
       exact awl_nil ⟨rfl, post_put⟩⟩⟩
     , ⟨_, rfl, fun sl hd hr ho => by
       refine g_skip rfl (hd 2 _ rfl rfl rfl) rfl rfl ?_
       exact awl_nil ⟨rfl, post_put⟩⟩⟩
     , ⟨_, rfl, fun sl hd hr ho => by
       refine g_skip rfl (hd 2 _ rfl rfl rfl) rfl rfl ?_
       exact awl_nil ⟨rfl, post_put⟩⟩⟩
     , ⟨_, rfl, fun sl hd hr ho => by
       refine g_skip rfl (hd 2 _ rfl rfl rfl) rfl rfl ?_
       exact awl_nil ⟨rfl, post_put⟩⟩⟩
     , ⟨_, rfl, fun sl hd hr ho => by
       refine g_skip rfl (hd 2 _ rfl rfl rfl) rfl rfl ?_
       exact awl_nil ⟨rfl, post_put⟩⟩⟩
     , ⟨_, rfl, fun sl hd hr ho => by
       refine g_skip rfl (hd 2 _ rfl rfl rfl) rfl rfl ?_
       exact awl_nil ⟨rfl, post_put⟩⟩⟩
     , ⟨_, rfl, fun sl hd hr ho => by
       refine g_skip rfl (hd 2 _ rfl rfl rfl) rfl rfl ?_
       exact awl_nil ⟨rfl, post_put⟩⟩⟩
     (by rfl) ?_
    refine g_skip rfl rfl rfl rfl ?_
    refine g_skip rfl rfl rfl rfl ?_
    refine r_pickF rfl rfl rfl rfl ?_
    refine awl_nil ?_
    refine x_then ?_
    refine awp_condF rfl ?_
    refine awp_skip ?_
    refine x_block ?_
    refine x_then ?_
    refine awp_region ?_
    refine r_move rfl rfl ?_
    refine r_ari _ rfl rfl rfl (wrap_id (by first | omega | (simp; omega))) rfl ?_
    refine r_assign rfl rfl ?_
    refine awl_nil ?_
    refine x_then ?_
    have et := fmS_step (f := chgF a b) hx
    rw [ht] at et
    simp only [Option.toList_some, Option.toList_none, List.append_nil] at et
    refine ⟨(namesF a).length - (k + 1), ⟨175, [(1, .a (files b)), (6, .a (files (onlyS b a))), (7, .a (.v (.slice (some ⟨b26, 0, none⟩) (wentF b a).length (wentF b a).length))), (13, .own 27 4 (((out ++ gone) ++ ((namesF a).take (k + 1)).filterMap (chgF a b)).map FC.cs)), (14, .a (files (cleanS a))), (15, .a (.v (.int .i64 (((k + 1) : Int)))))], [⟨b26, true, .box (tk.map fun x => AV.v (.bool x))⟩]⟩, ⟨rfl, (Slots.cons rfl (by first | exact .refl _ | exact .nilOwn _ _ | exact .nilSl _ | exact .ownSl _ _ _  | exact SV.le.ownEq (by first | rfl | (rw [et, ← List.append_assoc (out ++ gone), List.map_append (l₁ := ((out ++ gone) ++ ((namesF a).take k).filterMap (chgF a b)))]; rfl) | (rw [et]; first | done | rfl)) | exact SV.le.of_eq (by first | rfl | (rw [et, ← List.append_assoc (out ++ gone), List.map_append (l₁ := ((out ++ gone) ++ ((namesF a).take k).filterMap (chgF a b)))]; rfl) | (rw [et]; first | done | rfl))) (Slots.cons rfl (by first | exact .refl _ | exact .nilOwn _ _ | exact .nilSl _ | exact .ownSl _ _ _  | exact SV.le.ownEq (by first | rfl | (rw [et, ← List.append_assoc (out ++ gone), List.map_append (l₁ := ((out ++ gone) ++ ((namesF a).take k).filterMap (chgF a b)))]; rfl) | (rw [et]; first | done | rfl)) | exact SV.le.of_eq (by first | rfl | (rw [et, ← List.append_assoc (out ++ gone), List.map_append (l₁ := ((out ++ gone) ++ ((namesF a).take k).filterMap (chgF a b)))]; rfl) | (rw [et]; first | done | rfl))) (Slots.cons rfl (by first | exact .refl _ | exact .nilOwn _ _ | exact .nilSl _ | exact .ownSl _ _ _  | exact SV.le.ownEq (by first | rfl | (rw [et, ← List.append_assoc (out ++ gone), List.map_append (l₁ := ((out ++ gone) ++ ((namesF a).take k).filterMap (chgF a b)))]; rfl) | (rw [et]; first | done | rfl)) | exact SV.le.of_eq (by first | rfl | (rw [et, ← List.append_assoc (out ++ gone), List.map_append (l₁ := ((out ++ gone) ++ ((namesF a).take k).filterMap (chgF a b)))]; rfl) | (rw [et]; first | done | rfl))) (Slots.cons rfl (by first | exact .refl _ | exact .nilOwn _ _ | exact .nilSl _ | exact .ownSl _ _ _  | exact SV.le.ownEq (by first | rfl | (rw [et, ← List.append_assoc (out ++ gone), List.map_append (l₁ := ((out ++ gone) ++ ((namesF a).take k).filterMap (chgF a b)))]; rfl) | (rw [et]; first | done | rfl)) | exact SV.le.of_eq (by first | rfl | (rw [et, ← List.append_assoc (out ++ gone), List.map_append (l₁ := ((out ++ gone) ++ ((namesF a).take k).filterMap (chgF a b)))]; rfl) | (rw [et]; first | done | rfl))) (Slots.cons rfl (by first | exact .refl _ | exact .nilOwn _ _ | exact .nilSl _ | exact .ownSl _ _ _  | exact SV.le.ownEq (by first | rfl | (rw [et, ← List.append_assoc (out ++ gone), List.map_append (l₁ := ((out ++ gone) ++ ((namesF a).take k).filterMap (chgF a b)))]; rfl) | (rw [et]; first | done | rfl)) | exact SV.le.of_eq (by first | rfl | (rw [et, ← List.append_assoc (out ++ gone), List.map_append (l₁ := ((out ++ gone) ++ ((namesF a).take k).filterMap (chgF a b)))]; rfl) | (rw [et]; first | done | rfl))) (Slots.cons rfl (by first | exact .refl _ | exact .nilOwn _ _ | exact .nilSl _ | exact .ownSl _ _ _  | exact SV.le.ownEq (by first | rfl | (rw [et, ← List.append_assoc (out ++ gone), List.map_append (l₁ := ((out ++ gone) ++ ((namesF a).take k).filterMap (chgF a b)))]; rfl) | (rw [et]; first | done | rfl)) | exact SV.le.of_eq (by first | rfl | (rw [et, ← List.append_assoc (out ++ gone), List.map_append (l₁ := ((out ++ gone) ++ ((namesF a).take k).filterMap (chgF a b)))]; rfl) | (rw [et]; first | done | rfl))) Slots.nil)))))), (by first | exact List.Sublist.refl _ | exact .cons_cons _ (.cons _ (.refl _)) | exact List.nil_sublist _ | exact .cons _ (.refl _) | exact .cons _ (.cons _ (.refl _)) | exact .cons _ (.cons _ (.cons _ (.refl _))) | exact .cons _ (.cons _ (.cons _ (.cons _ (.refl _)))) | exact .cons_cons _ (List.nil_sublist _))⟩, (by omega), ⟨k + 1, rfl, rfl, (by omega)⟩⟩
   ·
    rw [hfo]
    obtain ⟨y, hy, hyn, hlk⟩ := find_some_look hfo
    have hoi : optI (some iy) = (iy : Int) := rfl
    rw [hoi]
    refine r_assign rfl rfl ?_
    refine awl_nil ?_
    refine x_then ?_
    refine awp_seq ?_
    refine awp_drawS [119, 120, 121, 122, 123, 124, 125, 126, 127, 128, 129, 130, 131] [_, _, _, _, _, _, _, _, _, _, _, _, _] [] [] TF.mixed rfl rfl rfl ⟨⟨⟨⟨⟨⟨⟨⟨⟨⟨⟨⟨⟨trivial
     , ⟨_, rfl, fun sl hd hr ho => by
       refine r_move (hr 16 _ rfl rfl rfl) rfl ?_
       exact awl_nil ⟨rfl, post_put⟩⟩⟩
     , ⟨_, rfl, fun sl hd hr ho => by
       refine r_cmp (hd 0 _ rfl rfl rfl) rfl rfl rfl ?_
       exact awl_nil ⟨rfl, post_put⟩⟩⟩
     , ⟨_, rfl, fun sl hd hr ho => by
       refine r_move (hd 1 _ rfl rfl rfl) rfl ?_
       exact awl_nil ⟨rfl, post_put⟩⟩⟩
     , ⟨_, rfl, fun sl hd hr ho => by
       refine g_run rfl (hd 2 _ rfl rfl rfl) (by simp) ?_
       refine r_move (hr 14 _ rfl rfl rfl) rfl ?_
       exact awl_nil ⟨rfl, post_put⟩⟩⟩
     , ⟨_, rfl, fun sl hd hr ho => by
       refine g_run rfl (hd 2 _ rfl rfl rfl) (by simp) ?_
       refine r_move (hr 15 _ rfl rfl rfl) rfl ?_
       exact awl_nil ⟨rfl, post_put⟩⟩⟩
     , ⟨_, rfl, fun sl hd hr ho => by
       refine g_run rfl (hd 2 _ rfl rfl rfl) (by simp) ?_
       refine r_index (hd 3 _ rfl rfl rfl) rfl (hd 4 _ rfl rfl rfl) TF.sl22 TF.sz54 (by omega) (get_map (clean_get hx)) rfl ?_
       exact awl_nil ⟨rfl, post_put⟩⟩⟩
     , ⟨_, rfl, fun sl hd hr ho => by
       refine g_run rfl (hd 2 _ rfl rfl rfl) (by simp) ?_
       first | (refine r_fieldcp (hd 5 _ rfl rfl rfl) TF.f54_1 TF.sz34 rfl ?_) | (refine r_fieldb (hd 5 _ rfl rfl rfl) TF.f54_1 TF.sz34 rfl ?_)
       exact awl_nil ⟨rfl, post_put⟩⟩⟩
     , ⟨_, rfl, fun sl hd hr ho => by
       refine g_run rfl (hd 2 _ rfl rfl rfl) (by simp) ?_
       first | (refine r_load1 (hd 6 _ rfl rfl rfl) TF.agg34 rfl ?_) | (refine r_load1b 0 (hd 6 _ rfl rfl rfl) rfl rfl TF.agg34 rfl ?_)
       exact awl_nil ⟨rfl, post_put⟩⟩⟩
     , ⟨_, rfl, fun sl hd hr ho => by
       refine g_run rfl (hd 2 _ rfl rfl rfl) (by simp) ?_
       refine r_move (hr 1 _ rfl rfl rfl) rfl ?_
       exact awl_nil ⟨rfl, post_put⟩⟩⟩
     , ⟨_, rfl, fun sl hd hr ho => by
       refine g_run rfl (hd 2 _ rfl rfl rfl) (by simp) ?_
       refine r_move (hr 16 _ rfl rfl rfl) rfl ?_
       exact awl_nil ⟨rfl, post_put⟩⟩⟩
     , ⟨_, rfl, fun sl hd hr ho => by
       refine g_run rfl (hd 2 _ rfl rfl rfl) (by simp) ?_
       refine r_index (hd 8 _ rfl rfl rfl) rfl (hd 9 _ rfl rfl rfl) TF.sl22 TF.sz54 (by omega) (get_map hy) rfl ?_
       exact awl_nil ⟨rfl, post_put⟩⟩⟩
     , ⟨_, rfl, fun sl hd hr ho => by
       refine g_run rfl (hd 2 _ rfl rfl rfl) (by simp) ?_
       first | (refine r_fieldcp (hd 10 _ rfl rfl rfl) TF.f54_1 TF.sz34 rfl ?_) | (refine r_fieldb (hd 10 _ rfl rfl rfl) TF.f54_1 TF.sz34 rfl ?_)
       exact awl_nil ⟨rfl, post_put⟩⟩⟩
     , ⟨_, rfl, fun sl hd hr ho => by
       refine g_run rfl (hd 2 _ rfl rfl rfl) (by simp) ?_
       first | (refine r_load1 (hd 11 _ rfl rfl rfl) TF.agg34 rfl ?_) | (refine r_load1b 0 (hd 11 _ rfl rfl rfl) rfl rfl TF.agg34 rfl ?_)
       exact awl_nil ⟨rfl, post_put⟩⟩⟩
     (by rfl) ?_
    refine g_run rfl rfl (by simp) ?_
    refine r_call0 hq rfl rfl (.cons (.ev rfl rfl) (.cons (.ev rfl rfl) .nil)) (rsame_ok ((lookF a x).getD []) y.data (look_len hdA x) (hdb y (List.mem_of_getElem? hy))) rfl TF.en32 rfl (fun r hr => ?_)
    obtain rfl := hr
    refine g_run rfl rfl (by simp) ?_
    refine r_not rfl rfl ?_
    refine r_pickT rfl (by simp) rfl rfl ?_
    refine awl_nil ?_
    refine x_then ?_
    refine awp_cond rfl (fun hc5 => ?_) (fun hc5 => ?_)
    ·
     have hne : decide ((lookF a x).getD [] = y.data) = false := by simpa using hc5
     have ht : chgF a b x = some ⟨3, x, E0, y.data⟩ := by rw [chgF, hlk]; simp only [hne, cond_false]
     refine awp_drawS [135, 136, 137, 138, 139, 140, 141, 142, 143, 144, 145, 146, 147] [_, _, _, _, _, _, _, _, _, _, _, _, _] [] [(12, 147)] TF.mixed rfl rfl rfl ⟨⟨⟨⟨⟨⟨⟨⟨⟨⟨⟨⟨⟨trivial
      , ⟨_, rfl, fun sl hd hr ho => by
        refine r_move (hr 13 _ rfl rfl rfl) rfl ?_
        exact awl_nil ⟨rfl, post_put⟩⟩⟩
      , ⟨_, rfl, fun sl hd hr ho => by
        refine r_move (hr 14 _ rfl rfl rfl) rfl ?_
        exact awl_nil ⟨rfl, post_put⟩⟩⟩
      , ⟨_, rfl, fun sl hd hr ho => by
        refine r_move (hr 15 _ rfl rfl rfl) rfl ?_
        exact awl_nil ⟨rfl, post_put⟩⟩⟩
      , ⟨_, rfl, fun sl hd hr ho => by
        refine r_index (hd 1 _ rfl rfl rfl) rfl (hd 2 _ rfl rfl rfl) TF.sl22 TF.sz54 (by omega) (get_map (clean_get hx)) rfl ?_
        exact awl_nil ⟨rfl, post_put⟩⟩⟩
      , ⟨_, rfl, fun sl hd hr ho => by
        first | (refine r_fieldcp (hd 3 _ rfl rfl rfl) TF.f54_0 TF.sz9 rfl ?_) | (refine r_fieldb (hd 3 _ rfl rfl rfl) TF.f54_0 TF.sz9 rfl ?_)
        exact awl_nil ⟨rfl, post_put⟩⟩⟩
      , ⟨_, rfl, fun sl hd hr ho => by
        first | (refine r_load1 (hd 4 _ rfl rfl rfl) TF.agg9 rfl ?_) | (refine r_load1b 0 (hd 4 _ rfl rfl rfl) rfl rfl TF.agg9 rfl ?_)
        exact awl_nil ⟨rfl, post_put⟩⟩⟩
      , ⟨_, rfl, fun sl hd hr ho => by
        refine r_move (hr 1 _ rfl rfl rfl) rfl ?_
        exact awl_nil ⟨rfl, post_put⟩⟩⟩
      , ⟨_, rfl, fun sl hd hr ho => by
        refine r_move (hr 16 _ rfl rfl rfl) rfl ?_
        exact awl_nil ⟨rfl, post_put⟩⟩⟩
      , ⟨_, rfl, fun sl hd hr ho => by
        refine r_index (hd 6 _ rfl rfl rfl) rfl (hd 7 _ rfl rfl rfl) TF.sl22 TF.sz54 (by omega) (get_map hy) rfl ?_
        exact awl_nil ⟨rfl, post_put⟩⟩⟩
      , ⟨_, rfl, fun sl hd hr ho => by
        first | (refine r_fieldcp (hd 8 _ rfl rfl rfl) TF.f54_1 TF.sz34 rfl ?_) | (refine r_fieldb (hd 8 _ rfl rfl rfl) TF.f54_1 TF.sz34 rfl ?_)
        exact awl_nil ⟨rfl, post_put⟩⟩⟩
      , ⟨_, rfl, fun sl hd hr ho => by
        first | (refine r_load1 (hd 9 _ rfl rfl rfl) TF.agg34 rfl ?_) | (refine r_load1b 0 (hd 9 _ rfl rfl rfl) rfl rfl TF.agg34 rfl ?_)
        exact awl_nil ⟨rfl, post_put⟩⟩⟩
      , ⟨_, rfl, fun sl hd hr ho => by
        refine r_build (parts := [(0, .const ((Go.Value.int Go.IntKind.i64 3))), (1, .tmp 140), (3, .tmp 145)]) rfl TF.pl36 TF.zero36 (parts_cons rfl (parts_cons (hd 5 _ rfl rfl rfl) (parts_cons (hd 10 _ rfl rfl rfl) parts_nil))) rfl rfl ?_
        exact awl_nil ⟨rfl, post_put⟩⟩⟩
      , ⟨_, rfl, fun sl hd hr ho => by
        refine r_lit 147 (parts := [(0, .tmp 146)]) rfl TF.sl30 TF.sz36 TF.zraw36 rfl rfl (parts_cons (hd 11 _ rfl rfl rfl) parts_nil) rfl rfl rfl rfl ?_
        exact awl_nil ⟨rfl, (post_dem (ho 147 (List.mem_of_elem_eq_true rfl)))⟩⟩⟩
      (by rfl) ?_
     refine r_append 27 rfl (by first | exact .own _ | exact .nil) rfl (by first | exact .sl _ | exact .own _ _ | exact .nil) TF.sl30 TF.sz36 (by decide) TF.by36 TF.zlen36 (by simp [chunks] <;> omega) (by simp [chunks] <;> omega) rfl ?_
     refine r_assign rfl rfl ?_
     refine awl_nil ?_
     refine x_block ?_
     refine x_then ?_
     refine awp_region ?_
     refine r_move rfl rfl ?_
     refine r_ari _ rfl rfl rfl (wrap_id (by first | omega | (simp; omega))) rfl ?_
     refine r_assign rfl rfl ?_
     refine awl_nil ?_
     refine x_then ?_
     have et := fmS_step (f := chgF a b) hx
     rw [ht] at et
     simp only [Option.toList_some, Option.toList_none, List.append_nil] at et
     refine ⟨(namesF a).length - (k + 1), ⟨175, [(1, .a (files b)), (6, .a (files (onlyS b a))), (7, .a (.v (.slice (some ⟨b26, 0, none⟩) (wentF b a).length (wentF b a).length))), (13, .own 27 4 (((out ++ gone) ++ ((namesF a).take (k + 1)).filterMap (chgF a b)).map FC.cs)), (14, .a (files (cleanS a))), (15, .a (.v (.int .i64 (((k + 1) : Int)))))], [⟨b26, true, .box (tk.map fun x => AV.v (.bool x))⟩]⟩, ⟨rfl, (Slots.cons rfl (by first | exact .refl _ | exact .nilOwn _ _ | exact .nilSl _ | exact .ownSl _ _ _  | exact SV.le.ownEq (by first | rfl | (rw [et, ← List.append_assoc (out ++ gone), List.map_append (l₁ := ((out ++ gone) ++ ((namesF a).take k).filterMap (chgF a b)))]; rfl) | (rw [et]; first | done | rfl)) | exact SV.le.of_eq (by first | rfl | (rw [et, ← List.append_assoc (out ++ gone), List.map_append (l₁ := ((out ++ gone) ++ ((namesF a).take k).filterMap (chgF a b)))]; rfl) | (rw [et]; first | done | rfl))) (Slots.cons rfl (by first | exact .refl _ | exact .nilOwn _ _ | exact .nilSl _ | exact .ownSl _ _ _  | exact SV.le.ownEq (by first | rfl | (rw [et, ← List.append_assoc (out ++ gone), List.map_append (l₁ := ((out ++ gone) ++ ((namesF a).take k).filterMap (chgF a b)))]; rfl) | (rw [et]; first | done | rfl)) | exact SV.le.of_eq (by first | rfl | (rw [et, ← List.append_assoc (out ++ gone), List.map_append (l₁ := ((out ++ gone) ++ ((namesF a).take k).filterMap (chgF a b)))]; rfl) | (rw [et]; first | done | rfl))) (Slots.cons rfl (by first | exact .refl _ | exact .nilOwn _ _ | exact .nilSl _ | exact .ownSl _ _ _  | exact SV.le.ownEq (by first | rfl | (rw [et, ← List.append_assoc (out ++ gone), List.map_append (l₁ := ((out ++ gone) ++ ((namesF a).take k).filterMap (chgF a b)))]; rfl) | (rw [et]; first | done | rfl)) | exact SV.le.of_eq (by first | rfl | (rw [et, ← List.append_assoc (out ++ gone), List.map_append (l₁ := ((out ++ gone) ++ ((namesF a).take k).filterMap (chgF a b)))]; rfl) | (rw [et]; first | done | rfl))) (Slots.cons rfl (by first | exact .refl _ | exact .nilOwn _ _ | exact .nilSl _ | exact .ownSl _ _ _  | exact SV.le.ownEq (by first | rfl | (rw [et, ← List.append_assoc (out ++ gone), List.map_append (l₁ := ((out ++ gone) ++ ((namesF a).take k).filterMap (chgF a b)))]; rfl) | (rw [et]; first | done | rfl)) | exact SV.le.of_eq (by first | rfl | (rw [et, ← List.append_assoc (out ++ gone), List.map_append (l₁ := ((out ++ gone) ++ ((namesF a).take k).filterMap (chgF a b)))]; rfl) | (rw [et]; first | done | rfl))) (Slots.cons rfl (by first | exact .refl _ | exact .nilOwn _ _ | exact .nilSl _ | exact .ownSl _ _ _  | exact SV.le.ownEq (by first | rfl | (rw [et, ← List.append_assoc (out ++ gone), List.map_append (l₁ := ((out ++ gone) ++ ((namesF a).take k).filterMap (chgF a b)))]; rfl) | (rw [et]; first | done | rfl)) | exact SV.le.of_eq (by first | rfl | (rw [et, ← List.append_assoc (out ++ gone), List.map_append (l₁ := ((out ++ gone) ++ ((namesF a).take k).filterMap (chgF a b)))]; rfl) | (rw [et]; first | done | rfl))) (Slots.cons rfl (by first | exact .refl _ | exact .nilOwn _ _ | exact .nilSl _ | exact .ownSl _ _ _  | exact SV.le.ownEq (by first | rfl | (rw [et, ← List.append_assoc (out ++ gone), List.map_append (l₁ := ((out ++ gone) ++ ((namesF a).take k).filterMap (chgF a b)))]; rfl) | (rw [et]; first | done | rfl)) | exact SV.le.of_eq (by first | rfl | (rw [et, ← List.append_assoc (out ++ gone), List.map_append (l₁ := ((out ++ gone) ++ ((namesF a).take k).filterMap (chgF a b)))]; rfl) | (rw [et]; first | done | rfl))) Slots.nil)))))), (by first | exact List.Sublist.refl _ | exact .cons_cons _ (.cons _ (.refl _)) | exact List.nil_sublist _ | exact .cons _ (.refl _) | exact .cons _ (.cons _ (.refl _)) | exact .cons _ (.cons _ (.cons _ (.refl _))) | exact .cons _ (.cons _ (.cons _ (.cons _ (.refl _)))) | exact .cons_cons _ (List.nil_sublist _))⟩, (by omega), ⟨k + 1, rfl, rfl, (by omega)⟩⟩
    ·
     have hne : decide ((lookF a x).getD [] = y.data) = true := by simpa using hc5
     have ht : chgF a b x = none := by rw [chgF, hlk]; simp only [hne, cond_true]
     refine awp_skip ?_
     refine x_block ?_
     refine x_then ?_
     refine awp_region ?_
     refine r_move rfl rfl ?_
     refine r_ari _ rfl rfl rfl (wrap_id (by first | omega | (simp; omega))) rfl ?_
     refine r_assign rfl rfl ?_
     refine awl_nil ?_
     refine x_then ?_
     have et := fmS_step (f := chgF a b) hx
     rw [ht] at et
     simp only [Option.toList_some, Option.toList_none, List.append_nil] at et
     refine ⟨(namesF a).length - (k + 1), ⟨175, [(1, .a (files b)), (6, .a (files (onlyS b a))), (7, .a (.v (.slice (some ⟨b26, 0, none⟩) (wentF b a).length (wentF b a).length))), (13, .own 27 4 (((out ++ gone) ++ ((namesF a).take (k + 1)).filterMap (chgF a b)).map FC.cs)), (14, .a (files (cleanS a))), (15, .a (.v (.int .i64 (((k + 1) : Int)))))], [⟨b26, true, .box (tk.map fun x => AV.v (.bool x))⟩]⟩, ⟨rfl, (Slots.cons rfl (by first | exact .refl _ | exact .nilOwn _ _ | exact .nilSl _ | exact .ownSl _ _ _  | exact SV.le.ownEq (by first | rfl | (rw [et, ← List.append_assoc (out ++ gone), List.map_append (l₁ := ((out ++ gone) ++ ((namesF a).take k).filterMap (chgF a b)))]; rfl) | (rw [et]; first | done | rfl)) | exact SV.le.of_eq (by first | rfl | (rw [et, ← List.append_assoc (out ++ gone), List.map_append (l₁ := ((out ++ gone) ++ ((namesF a).take k).filterMap (chgF a b)))]; rfl) | (rw [et]; first | done | rfl))) (Slots.cons rfl (by first | exact .refl _ | exact .nilOwn _ _ | exact .nilSl _ | exact .ownSl _ _ _  | exact SV.le.ownEq (by first | rfl | (rw [et, ← List.append_assoc (out ++ gone), List.map_append (l₁ := ((out ++ gone) ++ ((namesF a).take k).filterMap (chgF a b)))]; rfl) | (rw [et]; first | done | rfl)) | exact SV.le.of_eq (by first | rfl | (rw [et, ← List.append_assoc (out ++ gone), List.map_append (l₁ := ((out ++ gone) ++ ((namesF a).take k).filterMap (chgF a b)))]; rfl) | (rw [et]; first | done | rfl))) (Slots.cons rfl (by first | exact .refl _ | exact .nilOwn _ _ | exact .nilSl _ | exact .ownSl _ _ _  | exact SV.le.ownEq (by first | rfl | (rw [et, ← List.append_assoc (out ++ gone), List.map_append (l₁ := ((out ++ gone) ++ ((namesF a).take k).filterMap (chgF a b)))]; rfl) | (rw [et]; first | done | rfl)) | exact SV.le.of_eq (by first | rfl | (rw [et, ← List.append_assoc (out ++ gone), List.map_append (l₁ := ((out ++ gone) ++ ((namesF a).take k).filterMap (chgF a b)))]; rfl) | (rw [et]; first | done | rfl))) (Slots.cons rfl (by first | exact .refl _ | exact .nilOwn _ _ | exact .nilSl _ | exact .ownSl _ _ _  | exact SV.le.ownEq (by first | rfl | (rw [et, ← List.append_assoc (out ++ gone), List.map_append (l₁ := ((out ++ gone) ++ ((namesF a).take k).filterMap (chgF a b)))]; rfl) | (rw [et]; first | done | rfl)) | exact SV.le.of_eq (by first | rfl | (rw [et, ← List.append_assoc (out ++ gone), List.map_append (l₁ := ((out ++ gone) ++ ((namesF a).take k).filterMap (chgF a b)))]; rfl) | (rw [et]; first | done | rfl))) (Slots.cons rfl (by first | exact .refl _ | exact .nilOwn _ _ | exact .nilSl _ | exact .ownSl _ _ _  | exact SV.le.ownEq (by first | rfl | (rw [et, ← List.append_assoc (out ++ gone), List.map_append (l₁ := ((out ++ gone) ++ ((namesF a).take k).filterMap (chgF a b)))]; rfl) | (rw [et]; first | done | rfl)) | exact SV.le.of_eq (by first | rfl | (rw [et, ← List.append_assoc (out ++ gone), List.map_append (l₁ := ((out ++ gone) ++ ((namesF a).take k).filterMap (chgF a b)))]; rfl) | (rw [et]; first | done | rfl))) (Slots.cons rfl (by first | exact .refl _ | exact .nilOwn _ _ | exact .nilSl _ | exact .ownSl _ _ _  | exact SV.le.ownEq (by first | rfl | (rw [et, ← List.append_assoc (out ++ gone), List.map_append (l₁ := ((out ++ gone) ++ ((namesF a).take k).filterMap (chgF a b)))]; rfl) | (rw [et]; first | done | rfl)) | exact SV.le.of_eq (by first | rfl | (rw [et, ← List.append_assoc (out ++ gone), List.map_append (l₁ := ((out ++ gone) ++ ((namesF a).take k).filterMap (chgF a b)))]; rfl) | (rw [et]; first | done | rfl))) Slots.nil)))))), (by first | exact List.Sublist.refl _ | exact .cons_cons _ (.cons _ (.refl _)) | exact List.nil_sublist _ | exact .cons _ (.refl _) | exact .cons _ (.cons _ (.refl _)) | exact .cons _ (.cons _ (.cons _ (.refl _))) | exact .cons _ (.cons _ (.cons _ (.cons _ (.refl _)))) | exact .cons_cons _ (List.nil_sublist _))⟩, (by omega), ⟨k + 1, rfl, rfl, (by omega)⟩⟩
  ·
   have hgek : (namesF a).length ≤ k := by have := of_decide_eq_false hc4; simp [clean_map] at this; omega
   have hkl : (namesF a).take k = namesF a := List.take_of_length_le hgek
   rw [hkl]
   have hf2 : ((namesF a).filterMap (chgF a b)).length ≤ (namesF a).length := List.length_filterMap_le _ _
   refine awp_exit ?_
   refine x_thenE ?_
   refine x_thenE ?_
   refine x_blockE ?_
   refine x_then ?_
   refine awp_seq ?_
   refine awp_seq ?_
   refine awp_region ?_
   refine r_assign rfl rfl ?_
   refine awl_nil ?_
   refine x_then ?_
   refine awp_block ?_
   refine awp_loop (fun nn0 S => ∃ k : Nat, S = ⟨175, [(6, .a (files (onlyS b a))), (7, .a (.v (.slice (some ⟨b26, 0, none⟩) (wentF b a).length (wentF b a).length))), (13, .own 27 4 (((out ++ gone) ++ (namesF a).filterMap (chgF a b) ++ (keepB ((wentF b a).take k) (tk.take k)).map (addF b)).map FC.cs)), (17, .a (.v (.int .i64 ((k : Int)))))], [⟨b26, true, .box (tk.map fun x => AV.v (.bool x))⟩]⟩ ∧ nn0 = (wentF b a).length - k ∧ (k ≤ (wentF b a).length) ∧ ((keepB ((wentF b a).take k) (tk.take k)).length ≤ k)) ((wentF b a).length - (0)) ⟨175, [(6, .a (files (onlyS b a))), (7, .a (.v (.slice (some ⟨b26, 0, none⟩) (wentF b a).length (wentF b a).length))), (13, .own 27 4 (((out ++ gone) ++ (namesF a).filterMap (chgF a b) ++ (keepB ((wentF b a).take (0)) (tk.take (0))).map (addF b)).map FC.cs)), (17, .a (.v (.int .i64 (((0) : Int)))))], [⟨b26, true, .box (tk.map fun x => AV.v (.bool x))⟩]⟩ ⟨rfl, (Slots.cons rfl (by first | exact .refl _ | exact .nilOwn _ _ | exact .nilSl _ | exact .ownSl _ _ _  | exact SV.le.ownEq (by simp [keepB]) | exact SV.le.of_eq (by simp [keepB])) (Slots.cons rfl (by first | exact .refl _ | exact .nilOwn _ _ | exact .nilSl _ | exact .ownSl _ _ _  | exact SV.le.ownEq (by simp [keepB]) | exact SV.le.of_eq (by simp [keepB])) (Slots.cons rfl (by first | exact .refl _ | exact .nilOwn _ _ | exact .nilSl _ | exact .ownSl _ _ _  | exact SV.le.ownEq (by simp [keepB]) | exact SV.le.of_eq (by simp [keepB])) (Slots.cons rfl (by first | exact .refl _ | exact .nilOwn _ _ | exact .nilSl _ | exact .ownSl _ _ _  | exact SV.le.ownEq (by simp [keepB]) | exact SV.le.of_eq (by simp [keepB])) Slots.nil)))), (by first | exact List.Sublist.refl _ | exact .cons_cons _ (.cons _ (.refl _)) | exact List.nil_sublist _ | exact .cons _ (.refl _) | exact .cons _ (.cons _ (.refl _)) | exact .cons _ (.cons _ (.cons _ (.refl _))) | exact .cons _ (.cons _ (.cons _ (.cons _ (.refl _)))) | exact .cons_cons _ (List.nil_sublist _))⟩ ⟨0, rfl, rfl, Nat.zero_le _, (by simp [keepB])⟩ ?_
   rintro nn0 _ ⟨k, rfl, rfl, hk, hkp⟩
   refine awp_seq ?_
   refine awp_seq ?_
   refine awp_region ?_
   refine r_move rfl rfl ?_
   refine r_move rfl rfl ?_
   first | (refine r_lenS rfl rfl TF.sl22 rfl ?_) | (refine r_lenNil rfl TF.sl22 rfl ?_) | (refine r_lenV rfl TF.sl22 rfl ?_)
   refine r_cmp rfl rfl rfl rfl ?_
   refine awl_nil ?_
   refine x_then ?_
   refine awp_cond rfl (fun hc6 => ?_) (fun hc6 => ?_)
   ·
    have hltk : k < (wentF b a).length := by have := of_decide_eq_true hc6; simp [onlyS] at this; omega
    obtain ⟨x, hx⟩ := get_lt hltk
    obtain ⟨tb, htb⟩ := get_lt (show k < tk.length by omega)
    have holl := only_len b a
    have hks := keep_step hx htb
    refine awp_skip ?_
    refine x_then ?_
    refine awp_seq ?_
    refine awp_block ?_
    refine awp_seq ?_
    refine awp_region ?_
    refine r_move rfl rfl ?_
    refine r_move rfl rfl ?_
    refine r_indexV rfl rfl TF.sl67 TF.sz4 (by omega) (by omega) rfl ?_
    refine r_load1b 0 rfl rfl (tk_get htb) TF.agg4 rfl ?_
    refine r_not rfl rfl ?_
    refine awl_nil ?_
    refine x_then ?_
    refine awp_cond rfl (fun hc7 => ?_) (fun hc7 => ?_)
    ·
     have htf : tb = false := by simpa using hc7
     rw [htf, cond_false] at hks
     have e3 : (((out ++ gone) ++ (namesF a).filterMap (chgF a b) ++ (keepB ((wentF b a).take (k + 1)) (tk.take (k + 1))).map (addF b))).map FC.cs = (((out ++ gone) ++ (namesF a).filterMap (chgF a b) ++ (keepB ((wentF b a).take k) (tk.take k)).map (addF b))).map FC.cs ++ [FC.cs (addF b x)] := by rw [hks, List.map_append (f := addF b), ← List.append_assoc, List.map_append (f := FC.cs)]; rfl
     refine awp_drawS [160, 161, 162, 163, 164, 165, 166, 167, 168, 169, 170, 171, 172] [_, _, _, _, _, _, _, _, _, _, _, _, _] [] [(12, 172)] TF.mixed rfl rfl rfl ⟨⟨⟨⟨⟨⟨⟨⟨⟨⟨⟨⟨⟨trivial
      , ⟨_, rfl, fun sl hd hr ho => by
        refine r_move (hr 13 _ rfl rfl rfl) rfl ?_
        exact awl_nil ⟨rfl, post_put⟩⟩⟩
      , ⟨_, rfl, fun sl hd hr ho => by
        refine r_move (hr 6 _ rfl rfl rfl) rfl ?_
        exact awl_nil ⟨rfl, post_put⟩⟩⟩
      , ⟨_, rfl, fun sl hd hr ho => by
        refine r_move (hr 17 _ rfl rfl rfl) rfl ?_
        exact awl_nil ⟨rfl, post_put⟩⟩⟩
      , ⟨_, rfl, fun sl hd hr ho => by
        refine r_index (hd 1 _ rfl rfl rfl) rfl (hd 2 _ rfl rfl rfl) TF.sl22 TF.sz54 (by omega) (get_map (only_get hx)) rfl ?_
        exact awl_nil ⟨rfl, post_put⟩⟩⟩
      , ⟨_, rfl, fun sl hd hr ho => by
        first | (refine r_fieldcp (hd 3 _ rfl rfl rfl) TF.f54_0 TF.sz9 rfl ?_) | (refine r_fieldb (hd 3 _ rfl rfl rfl) TF.f54_0 TF.sz9 rfl ?_)
        exact awl_nil ⟨rfl, post_put⟩⟩⟩
      , ⟨_, rfl, fun sl hd hr ho => by
        first | (refine r_load1 (hd 4 _ rfl rfl rfl) TF.agg9 rfl ?_) | (refine r_load1b 0 (hd 4 _ rfl rfl rfl) rfl rfl TF.agg9 rfl ?_)
        exact awl_nil ⟨rfl, post_put⟩⟩⟩
      , ⟨_, rfl, fun sl hd hr ho => by
        refine r_move (hr 6 _ rfl rfl rfl) rfl ?_
        exact awl_nil ⟨rfl, post_put⟩⟩⟩
      , ⟨_, rfl, fun sl hd hr ho => by
        refine r_move (hr 17 _ rfl rfl rfl) rfl ?_
        exact awl_nil ⟨rfl, post_put⟩⟩⟩
      , ⟨_, rfl, fun sl hd hr ho => by
        refine r_index (hd 6 _ rfl rfl rfl) rfl (hd 7 _ rfl rfl rfl) TF.sl22 TF.sz54 (by omega) (get_map (only_get hx)) rfl ?_
        exact awl_nil ⟨rfl, post_put⟩⟩⟩
      , ⟨_, rfl, fun sl hd hr ho => by
        first | (refine r_fieldcp (hd 8 _ rfl rfl rfl) TF.f54_1 TF.sz34 rfl ?_) | (refine r_fieldb (hd 8 _ rfl rfl rfl) TF.f54_1 TF.sz34 rfl ?_)
        exact awl_nil ⟨rfl, post_put⟩⟩⟩
      , ⟨_, rfl, fun sl hd hr ho => by
        first | (refine r_load1 (hd 9 _ rfl rfl rfl) TF.agg34 rfl ?_) | (refine r_load1b 0 (hd 9 _ rfl rfl rfl) rfl rfl TF.agg34 rfl ?_)
        exact awl_nil ⟨rfl, post_put⟩⟩⟩
      , ⟨_, rfl, fun sl hd hr ho => by
        refine r_build (parts := [(0, .const ((Go.Value.int Go.IntKind.i64 1))), (1, .tmp 165), (3, .tmp 170)]) rfl TF.pl36 TF.zero36 (parts_cons rfl (parts_cons (hd 5 _ rfl rfl rfl) (parts_cons (hd 10 _ rfl rfl rfl) parts_nil))) rfl rfl ?_
        exact awl_nil ⟨rfl, post_put⟩⟩⟩
      , ⟨_, rfl, fun sl hd hr ho => by
        refine r_lit 172 (parts := [(0, .tmp 171)]) rfl TF.sl30 TF.sz36 TF.zraw36 rfl rfl (parts_cons (hd 11 _ rfl rfl rfl) parts_nil) rfl rfl rfl rfl ?_
        exact awl_nil ⟨rfl, (post_dem (ho 172 (List.mem_of_elem_eq_true rfl)))⟩⟩⟩
      (by rfl) ?_
     refine r_append 27 rfl (by first | exact .own _ | exact .nil) rfl (by first | exact .sl _ | exact .own _ _ | exact .nil) TF.sl30 TF.sz36 (by decide) TF.by36 TF.zlen36 (by simp [chunks] <;> omega) (by simp [chunks] <;> omega) rfl ?_
     refine r_assign rfl rfl ?_
     refine awl_nil ?_
     refine x_block ?_
     refine x_then ?_
     refine awp_region ?_
     refine r_move rfl rfl ?_
     refine r_ari _ rfl rfl rfl (wrap_id (by first | omega | (simp; omega))) rfl ?_
     refine r_assign rfl rfl ?_
     refine awl_nil ?_
     refine x_then ?_
     refine ⟨(wentF b a).length - (k + 1), ⟨175, [(6, .a (files (onlyS b a))), (7, .a (.v (.slice (some ⟨b26, 0, none⟩) (wentF b a).length (wentF b a).length))), (13, .own 27 4 (((out ++ gone) ++ (namesF a).filterMap (chgF a b) ++ (keepB ((wentF b a).take (k + 1)) (tk.take (k + 1))).map (addF b)).map FC.cs)), (17, .a (.v (.int .i64 (((k + 1) : Int)))))], [⟨b26, true, .box (tk.map fun x => AV.v (.bool x))⟩]⟩, ⟨rfl, (Slots.cons rfl (by first | exact .refl _ | exact .nilOwn _ _ | exact .nilSl _ | exact .ownSl _ _ _  | exact SV.le.ownEq (by first | rfl | (rw [e3]; rfl) | (rw [hks])) | exact SV.le.of_eq (by first | rfl | (rw [e3]; rfl) | (rw [hks]))) (Slots.cons rfl (by first | exact .refl _ | exact .nilOwn _ _ | exact .nilSl _ | exact .ownSl _ _ _  | exact SV.le.ownEq (by first | rfl | (rw [e3]; rfl) | (rw [hks])) | exact SV.le.of_eq (by first | rfl | (rw [e3]; rfl) | (rw [hks]))) (Slots.cons rfl (by first | exact .refl _ | exact .nilOwn _ _ | exact .nilSl _ | exact .ownSl _ _ _  | exact SV.le.ownEq (by first | rfl | (rw [e3]; rfl) | (rw [hks])) | exact SV.le.of_eq (by first | rfl | (rw [e3]; rfl) | (rw [hks]))) (Slots.cons rfl (by first | exact .refl _ | exact .nilOwn _ _ | exact .nilSl _ | exact .ownSl _ _ _  | exact SV.le.ownEq (by first | rfl | (rw [e3]; rfl) | (rw [hks])) | exact SV.le.of_eq (by first | rfl | (rw [e3]; rfl) | (rw [hks]))) Slots.nil)))), (by first | exact List.Sublist.refl _ | exact .cons_cons _ (.cons _ (.refl _)) | exact List.nil_sublist _ | exact .cons _ (.refl _) | exact .cons _ (.cons _ (.refl _)) | exact .cons _ (.cons _ (.cons _ (.refl _))) | exact .cons _ (.cons _ (.cons _ (.cons _ (.refl _)))) | exact .cons_cons _ (List.nil_sublist _))⟩, (by omega), ⟨k + 1, rfl, rfl, (by omega), (by rw [hks]; first | (simp; omega) | omega)⟩⟩
    ·
     have htf : tb = true := by simpa using hc7
     rw [htf, cond_true, List.append_nil] at hks
     refine awp_skip ?_
     refine x_block ?_
     refine x_then ?_
     refine awp_region ?_
     refine r_move rfl rfl ?_
     refine r_ari _ rfl rfl rfl (wrap_id (by first | omega | (simp; omega))) rfl ?_
     refine r_assign rfl rfl ?_
     refine awl_nil ?_
     refine x_then ?_
     refine ⟨(wentF b a).length - (k + 1), ⟨175, [(6, .a (files (onlyS b a))), (7, .a (.v (.slice (some ⟨b26, 0, none⟩) (wentF b a).length (wentF b a).length))), (13, .own 27 4 (((out ++ gone) ++ (namesF a).filterMap (chgF a b) ++ (keepB ((wentF b a).take (k + 1)) (tk.take (k + 1))).map (addF b)).map FC.cs)), (17, .a (.v (.int .i64 (((k + 1) : Int)))))], [⟨b26, true, .box (tk.map fun x => AV.v (.bool x))⟩]⟩, ⟨rfl, (Slots.cons rfl (by first | exact .refl _ | exact .nilOwn _ _ | exact .nilSl _ | exact .ownSl _ _ _  | exact SV.le.ownEq (by first | rfl | (rw [e3]; rfl) | (rw [hks])) | exact SV.le.of_eq (by first | rfl | (rw [e3]; rfl) | (rw [hks]))) (Slots.cons rfl (by first | exact .refl _ | exact .nilOwn _ _ | exact .nilSl _ | exact .ownSl _ _ _  | exact SV.le.ownEq (by first | rfl | (rw [e3]; rfl) | (rw [hks])) | exact SV.le.of_eq (by first | rfl | (rw [e3]; rfl) | (rw [hks]))) (Slots.cons rfl (by first | exact .refl _ | exact .nilOwn _ _ | exact .nilSl _ | exact .ownSl _ _ _  | exact SV.le.ownEq (by first | rfl | (rw [e3]; rfl) | (rw [hks])) | exact SV.le.of_eq (by first | rfl | (rw [e3]; rfl) | (rw [hks]))) (Slots.cons rfl (by first | exact .refl _ | exact .nilOwn _ _ | exact .nilSl _ | exact .ownSl _ _ _  | exact SV.le.ownEq (by first | rfl | (rw [e3]; rfl) | (rw [hks])) | exact SV.le.of_eq (by first | rfl | (rw [e3]; rfl) | (rw [hks]))) Slots.nil)))), (by first | exact List.Sublist.refl _ | exact .cons_cons _ (.cons _ (.refl _)) | exact List.nil_sublist _ | exact .cons _ (.refl _) | exact .cons _ (.cons _ (.refl _)) | exact .cons _ (.cons _ (.cons _ (.refl _))) | exact .cons _ (.cons _ (.cons _ (.cons _ (.refl _)))) | exact .cons_cons _ (List.nil_sublist _))⟩, (by omega), ⟨k + 1, rfl, rfl, (by omega), (by rw [hks]; first | (simp; omega) | omega)⟩⟩
   ·
    have hgek : (wentF b a).length ≤ k := by have := of_decide_eq_false hc6; simp [onlyS] at this; omega
    have hk1 : (wentF b a).take k = wentF b a := List.take_of_length_le hgek
    have hk2 : tk.take k = tk := List.take_of_length_le (by omega)
    refine awp_exit ?_
    refine x_thenE ?_
    refine x_thenE ?_
    refine x_blockE ?_
    refine x_then ?_
    refine awp_seq ?_
    refine awp_region ?_
    refine r_move rfl rfl ?_
    refine r_assign rfl rfl ?_
    refine awl_nil ?_
    refine x_then ?_
    refine awp_ret ?_
    exact ⟨(.inl rfl), _, [], (.one (by first | exact .mk rfl rfl | exact .nil rfl)), ⟨rfl, by rw [hk1, hk2, OfF, show splitE a b = (keepB (wentF b a) tk, out, gone) from hst]; rfl⟩, (List.nil_sublist _), (by simp)⟩
end Go.Proofs.Ytnbnegkdbjdekaa.A

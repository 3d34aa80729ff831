/- Layer 32: walks of the document's Three and Same. -/
import Derived.Test.YtcgjgnkpebpimaaProg
import Derived.KernelRfl
import Derived.Test.YtcgjgnkpebpimaaX32F
namespace Go.Proofs.Ytcgjgnkpebpimaa.A
open Go Go.RowKit
set_option linter.unusedVariables false
set_option linter.unusedSimpArgs false
set_option maxRecDepth 100000

theorem T.zraw22 : zeroT Try.prog 22 = some [(.slice none 0 0)] := by kernel_rfl
theorem T.en19 : entersT Try.prog 19 := enters_of Try.func19 (by kernel_rfl) (by kernel_rfl)
theorem T.en20 : entersT Try.prog 20 := enters_of Try.func20 (by kernel_rfl) (by kernel_rfl)
theorem T.en30 : entersT Try.prog 30 := enters_of Try.func30 (by kernel_rfl) (by kernel_rfl)
theorem T.pl38 : placesT Try.prog 38 = some [(0, 1), (1, 1), (2, 1), (3, 1), (4, 1)] := by kernel_rfl
theorem T.zero38 : ZeroT Try.prog 38 [.v (.int .i64 0), .v (.int .i64 0), .v (.int .u64 0), .v (.int .u64 0), .v (.int .u64 0)] := ⟨[(.int .i64 0), (.int .i64 0), (.int .u64 0), (.int .u64 0), (.int .u64 0)], by kernel_rfl, (LeCells.refl _)⟩
theorem T.sl31 : sliceT Try.prog 31 = some 38 := by kernel_rfl
theorem T.sz38 : szT Try.prog 38 = some 5 := by kernel_rfl
theorem T.zraw38 : zeroT Try.prog 38 = some [(.int .i64 0), (.int .i64 0), (.int .u64 0), (.int .u64 0), (.int .u64 0)] := by kernel_rfl
theorem T.by38 : bytesT Try.prog 38 = some 40 := by kernel_rfl
theorem T.zlen38 : (zeroT Try.prog 38).map (·.length) = some 5 := by kernel_rfl
theorem T.en24 : entersT Try.prog 24 := enters_of Try.func24 (by kernel_rfl) (by kernel_rfl)
theorem T.en13 : entersT Try.prog 13 := enters_of Try.func13 (by kernel_rfl) (by kernel_rfl)
theorem T.agg37 : aggT Try.prog 37 = some true := by kernel_rfl
theorem T.mix37 : MixT Try.prog 37 [.i64, .i64, .u64, .u64, .u64] := ⟨by kernel_rfl, by kernel_rfl, by kernel_rfl, by kernel_rfl⟩
theorem T.en16 : entersT Try.prog 16 := enters_of Try.func16 (by kernel_rfl) (by kernel_rfl)

theorem ralikeB_ok (a b table : Int) (ha : 0 ≤ a) (hb : 0 ≤ b) {r : Bool} (hr : r = alikeF (toldF table) a b) : AC Try.prog 30 [numA a, numA b, numA table] [] (fun x n => n = [] ∧ x = bA r) := by
  rw [hr]; exact ralike_ok a b table ha hb

set_option maxHeartbeats 1000000 in
theorem rthree_ok (base ours theirs : List Ent) (table : Int) (hlb : base.length ≤ 1000) (hlo : ours.length ≤ 1000) (hlt0 : theirs.length ≤ 1000) (hgb : Good base) (hgo : Good ours) (hgt : Good theirs) :
    AC Try.prog 15 [entsA base, entsA ours, entsA theirs, numA table] [] (fun r n => n = [] ∧ r = .tup [entsA (takeF (toldF table) base ours theirs), clasA (clashF (toldF table) base ours theirs)]) := by
  refine ac_of_awp (rs := [8, 9]) (nt := 111) Try.func15 rfl rfl rfl rfl (fun w0 C0 hq => ?_)
  refine awp_seq ?_
  refine awp_region ?_
  refine r_assign rfl rfl ?_
  refine r_assign rfl rfl ?_
  refine awl_nil ?_
  refine x_then ?_
  refine awp_seq ?_
  refine awp_region ?_
  refine r_assign rfl rfl ?_
  refine awl_nil ?_
  refine x_then ?_
  refine awp_seq ?_
  refine awp_region ?_
  refine r_assign rfl rfl ?_
  refine awl_nil ?_
  refine x_then ?_
  refine awp_seq ?_
  refine awp_region ?_
  refine r_move rfl rfl ?_
  refine r_move rfl rfl ?_
  refine r_move rfl rfl ?_
  refine r_lit 20 (parts := [(0, .tmp 17), (1, .tmp 18), (2, .tmp 19)]) rfl T.sl44 T.sz22 T.zraw22 rfl rfl rfl rfl rfl rfl rfl ?_
  refine r_call0 hq rfl rfl (.cons (.ev rfl rfl) .nil) (rplaces_ok [base, ours, theirs] (by simp) (by simp; omega)) rfl T.en19 rfl (fun r hr => ?_)
  obtain ⟨pl, hpl⟩ : ∃ pl, pl = placesF [base, ours, theirs] := ⟨_, rfl⟩
  rw [← hpl] at hr
  obtain rfl := hr
  have hpll : pl.length ≤ 3000 := by rw [hpl]; have := places_len [base, ours, theirs]; simp at this; omega
  refine r_assign rfl rfl ?_
  refine awl_nil ?_
  refine x_then ?_
  refine awp_seq ?_
  refine awp_seq ?_
  refine awp_region ?_
  refine r_assign rfl rfl ?_
  refine awl_nil ?_
  refine x_then ?_
  refine awp_block ?_
  refine awp_loop (fun nn0 S => ∃ k : Nat, S = ⟨111, [(0, .a (entsA base)), (1, .a (entsA ours)), (2, .a (entsA theirs)), (3, .a (numA table)), (10, .own 10 3 (((pl.take k).filterMap (takeAt (toldF table) base ours theirs)).map Ent.cs)), (11, .own 11 5 (((pl.take k).filterMap (clashAt (toldF table) base ours theirs)).map Cla.cs)), (12, .a (plesA pl)), (13, .a (.v (.int .i64 ((k : Int)))))], []⟩ ∧ nn0 = pl.length - k ∧ (k ≤ pl.length)) (pl.length - (0)) ⟨111, [(0, .a (entsA base)), (1, .a (entsA ours)), (2, .a (entsA theirs)), (3, .a (numA table)), (10, .own 10 3 (((pl.take (0)).filterMap (takeAt (toldF table) base ours theirs)).map Ent.cs)), (11, .own 11 5 (((pl.take (0)).filterMap (clashAt (toldF table) base ours theirs)).map Cla.cs)), (12, .a (plesA pl)), (13, .a (.v (.int .i64 (((0) : Int)))))], []⟩ ⟨rfl, (Slots.cons rfl (by first | exact .refl _ | exact .nilOwn _ _ | exact .nilSl _ | exact .ownSl _ _ _  | exact SV.le.of_eq (by simp)) (Slots.cons rfl (by first | exact .refl _ | exact .nilOwn _ _ | exact .nilSl _ | exact .ownSl _ _ _  | exact SV.le.of_eq (by simp)) (Slots.cons rfl (by first | exact .refl _ | exact .nilOwn _ _ | exact .nilSl _ | exact .ownSl _ _ _  | exact SV.le.of_eq (by simp)) (Slots.cons rfl (by first | exact .refl _ | exact .nilOwn _ _ | exact .nilSl _ | exact .ownSl _ _ _  | exact SV.le.of_eq (by simp)) (Slots.cons rfl (by first | exact .refl _ | exact .nilOwn _ _ | exact .nilSl _ | exact .ownSl _ _ _  | exact SV.le.of_eq (by simp)) (Slots.cons rfl (by first | exact .refl _ | exact .nilOwn _ _ | exact .nilSl _ | exact .ownSl _ _ _  | exact SV.le.of_eq (by simp)) (Slots.cons rfl (by first | exact .refl _ | exact .nilOwn _ _ | exact .nilSl _ | exact .ownSl _ _ _  | exact SV.le.of_eq (by simp)) (Slots.cons rfl (by first | exact .refl _ | exact .nilOwn _ _ | exact .nilSl _ | exact .ownSl _ _ _  | exact SV.le.of_eq (by simp)) Slots.nil)))))))), (by first | exact List.Sublist.refl _ | exact .cons_cons _ (.cons _ (.refl _)) | exact List.nil_sublist _ | exact .cons _ (.refl _) | exact .cons _ (.cons _ (.refl _)) | exact .cons _ (.cons _ (.cons _ (.refl _))) | exact .cons _ (.cons _ (.cons _ (.cons _ (.refl _)))) | exact .cons_cons _ (List.nil_sublist _))⟩ ⟨0, rfl, rfl, Nat.zero_le _⟩ ?_
  rintro nn0 _ ⟨k, rfl, rfl, hk⟩
  refine awp_seq ?_
  refine awp_seq ?_
  refine awp_region ?_
  refine r_move rfl rfl ?_
  refine r_move rfl rfl ?_
  first | (refine r_lenS rfl rfl T.sl22 rfl ?_) | (refine r_lenNil rfl T.sl22 rfl ?_)
  refine r_cmp rfl rfl rfl rfl ?_
  refine awl_nil ?_
  refine x_then ?_
  refine awp_cond rfl (fun hc0 => ?_) (fun hc0 => ?_)
  ·
    have hlt : k < pl.length := by have := of_decide_eq_true hc0; simpa using this
    obtain ⟨p, hp⟩ := get_lt hlt
    obtain ⟨b1, hb1⟩ : ∃ b, b = alikeF (toldF table) (shows base p) (shows ours p) := ⟨_, rfl⟩
    obtain ⟨b2, hb2⟩ : ∃ b, b = alikeF (toldF table) (shows base p) (shows theirs p) := ⟨_, rfl⟩
    obtain ⟨b3, hb3⟩ : ∃ b, b = alikeF (toldF table) (shows ours p) (shows theirs p) := ⟨_, rfl⟩
    have hf1 : ((pl.take k).filterMap (takeAt (toldF table) base ours theirs)).length ≤ k := Nat.le_trans (List.length_filterMap_le _ _) (by simp; omega)
    have hf2 : ((pl.take k).filterMap (clashAt (toldF table) base ours theirs)).length ≤ k := Nat.le_trans (List.length_filterMap_le _ _) (by simp; omega)
    refine awp_skip ?_
    refine x_then ?_
    refine awp_seq ?_
    refine awp_block ?_
    refine awp_seq ?_
    refine awp_drawS [28, 29, 30, 31, 32, 33, 34, 35, 36, 37, 38, 39, 40, 41, 42, 43, 44, 45, 46, 47, 48, 49, 50, 51, 52, 53, 54, 55, 56, 57, 58, 59, 60, 61, 62] [_, _, _, _, _, _, _, _, _, _, _, _, _, _, _, _, _, _, _, _, _, _, _, _, _, _, _, _, _, _, _, _, _, _, _] [] [] T.mixed rfl rfl rfl ⟨⟨⟨⟨⟨⟨⟨⟨⟨⟨⟨⟨⟨⟨⟨⟨⟨⟨⟨⟨⟨⟨⟨⟨⟨⟨⟨⟨⟨⟨⟨⟨⟨⟨⟨trivial
      , ⟨_, rfl, fun sl hd hr ho => by
          refine r_move (hr 0 _ rfl rfl rfl) rfl ?_
          exact awl_nil ⟨rfl, post_put⟩⟩⟩
      , ⟨_, rfl, fun sl hd hr ho => by
          refine r_move (hr 12 _ rfl rfl rfl) rfl ?_
          exact awl_nil ⟨rfl, post_put⟩⟩⟩
      , ⟨_, rfl, fun sl hd hr ho => by
          refine r_move (hr 13 _ rfl rfl rfl) rfl ?_
          exact awl_nil ⟨rfl, post_put⟩⟩⟩
      , ⟨_, rfl, fun sl hd hr ho => by
          refine r_index (hd 1 _ rfl rfl rfl) rfl (hd 2 _ rfl rfl rfl) T.sl22 T.sz35 (by omega) (get_map hp) rfl ?_
          exact awl_nil ⟨rfl, post_put⟩⟩⟩
      , ⟨_, rfl, fun sl hd hr ho => by
          first | (refine r_fieldcp (hd 3 _ rfl rfl rfl) T.f35_0 T.sz3 rfl ?_) | (refine r_fieldb (hd 3 _ rfl rfl rfl) T.f35_0 T.sz3 rfl ?_)
          exact awl_nil ⟨rfl, post_put⟩⟩⟩
      , ⟨_, rfl, fun sl hd hr ho => by
          refine r_load1 (hd 4 _ rfl rfl rfl) T.agg3 rfl ?_
          exact awl_nil ⟨rfl, post_put⟩⟩⟩
      , ⟨_, rfl, fun sl hd hr ho => by
          refine r_move (hr 12 _ rfl rfl rfl) rfl ?_
          exact awl_nil ⟨rfl, post_put⟩⟩⟩
      , ⟨_, rfl, fun sl hd hr ho => by
          refine r_move (hr 13 _ rfl rfl rfl) rfl ?_
          exact awl_nil ⟨rfl, post_put⟩⟩⟩
      , ⟨_, rfl, fun sl hd hr ho => by
          refine r_index (hd 6 _ rfl rfl rfl) rfl (hd 7 _ rfl rfl rfl) T.sl22 T.sz35 (by omega) (get_map hp) rfl ?_
          exact awl_nil ⟨rfl, post_put⟩⟩⟩
      , ⟨_, rfl, fun sl hd hr ho => by
          first | (refine r_fieldcp (hd 8 _ rfl rfl rfl) T.f35_1 T.sz3 rfl ?_) | (refine r_fieldb (hd 8 _ rfl rfl rfl) T.f35_1 T.sz3 rfl ?_)
          exact awl_nil ⟨rfl, post_put⟩⟩⟩
      , ⟨_, rfl, fun sl hd hr ho => by
          refine r_load1 (hd 9 _ rfl rfl rfl) T.agg3 rfl ?_
          exact awl_nil ⟨rfl, post_put⟩⟩⟩
      , ⟨_, rfl, fun sl hd hr ho => by
          refine r_call0 hq rfl rfl (.cons (.ev (hd 0 _ rfl rfl rfl) rfl) (.cons (.ev (hd 5 _ rfl rfl rfl) rfl) (.cons (.ev (hd 10 _ rfl rfl rfl) rfl) .nil))) (shows_ok base p.1 p.2 (by omega)) rfl T.en20 rfl (fun r hr => ?_)
          obtain rfl := hr
          exact awl_nil ⟨rfl, post_put⟩⟩⟩
      , ⟨_, rfl, fun sl hd hr ho => by
          refine r_move (hr 1 _ rfl rfl rfl) rfl ?_
          exact awl_nil ⟨rfl, post_put⟩⟩⟩
      , ⟨_, rfl, fun sl hd hr ho => by
          refine r_move (hr 12 _ rfl rfl rfl) rfl ?_
          exact awl_nil ⟨rfl, post_put⟩⟩⟩
      , ⟨_, rfl, fun sl hd hr ho => by
          refine r_move (hr 13 _ rfl rfl rfl) rfl ?_
          exact awl_nil ⟨rfl, post_put⟩⟩⟩
      , ⟨_, rfl, fun sl hd hr ho => by
          refine r_index (hd 13 _ rfl rfl rfl) rfl (hd 14 _ rfl rfl rfl) T.sl22 T.sz35 (by omega) (get_map hp) rfl ?_
          exact awl_nil ⟨rfl, post_put⟩⟩⟩
      , ⟨_, rfl, fun sl hd hr ho => by
          first | (refine r_fieldcp (hd 15 _ rfl rfl rfl) T.f35_0 T.sz3 rfl ?_) | (refine r_fieldb (hd 15 _ rfl rfl rfl) T.f35_0 T.sz3 rfl ?_)
          exact awl_nil ⟨rfl, post_put⟩⟩⟩
      , ⟨_, rfl, fun sl hd hr ho => by
          refine r_load1 (hd 16 _ rfl rfl rfl) T.agg3 rfl ?_
          exact awl_nil ⟨rfl, post_put⟩⟩⟩
      , ⟨_, rfl, fun sl hd hr ho => by
          refine r_move (hr 12 _ rfl rfl rfl) rfl ?_
          exact awl_nil ⟨rfl, post_put⟩⟩⟩
      , ⟨_, rfl, fun sl hd hr ho => by
          refine r_move (hr 13 _ rfl rfl rfl) rfl ?_
          exact awl_nil ⟨rfl, post_put⟩⟩⟩
      , ⟨_, rfl, fun sl hd hr ho => by
          refine r_index (hd 18 _ rfl rfl rfl) rfl (hd 19 _ rfl rfl rfl) T.sl22 T.sz35 (by omega) (get_map hp) rfl ?_
          exact awl_nil ⟨rfl, post_put⟩⟩⟩
      , ⟨_, rfl, fun sl hd hr ho => by
          first | (refine r_fieldcp (hd 20 _ rfl rfl rfl) T.f35_1 T.sz3 rfl ?_) | (refine r_fieldb (hd 20 _ rfl rfl rfl) T.f35_1 T.sz3 rfl ?_)
          exact awl_nil ⟨rfl, post_put⟩⟩⟩
      , ⟨_, rfl, fun sl hd hr ho => by
          refine r_load1 (hd 21 _ rfl rfl rfl) T.agg3 rfl ?_
          exact awl_nil ⟨rfl, post_put⟩⟩⟩
      , ⟨_, rfl, fun sl hd hr ho => by
          refine r_call0 hq rfl rfl (.cons (.ev (hd 12 _ rfl rfl rfl) rfl) (.cons (.ev (hd 17 _ rfl rfl rfl) rfl) (.cons (.ev (hd 22 _ rfl rfl rfl) rfl) .nil))) (shows_ok ours p.1 p.2 (by omega)) rfl T.en20 rfl (fun r hr => ?_)
          obtain rfl := hr
          exact awl_nil ⟨rfl, post_put⟩⟩⟩
      , ⟨_, rfl, fun sl hd hr ho => by
          refine r_move (hr 2 _ rfl rfl rfl) rfl ?_
          exact awl_nil ⟨rfl, post_put⟩⟩⟩
      , ⟨_, rfl, fun sl hd hr ho => by
          refine r_move (hr 12 _ rfl rfl rfl) rfl ?_
          exact awl_nil ⟨rfl, post_put⟩⟩⟩
      , ⟨_, rfl, fun sl hd hr ho => by
          refine r_move (hr 13 _ rfl rfl rfl) rfl ?_
          exact awl_nil ⟨rfl, post_put⟩⟩⟩
      , ⟨_, rfl, fun sl hd hr ho => by
          refine r_index (hd 25 _ rfl rfl rfl) rfl (hd 26 _ rfl rfl rfl) T.sl22 T.sz35 (by omega) (get_map hp) rfl ?_
          exact awl_nil ⟨rfl, post_put⟩⟩⟩
      , ⟨_, rfl, fun sl hd hr ho => by
          first | (refine r_fieldcp (hd 27 _ rfl rfl rfl) T.f35_0 T.sz3 rfl ?_) | (refine r_fieldb (hd 27 _ rfl rfl rfl) T.f35_0 T.sz3 rfl ?_)
          exact awl_nil ⟨rfl, post_put⟩⟩⟩
      , ⟨_, rfl, fun sl hd hr ho => by
          refine r_load1 (hd 28 _ rfl rfl rfl) T.agg3 rfl ?_
          exact awl_nil ⟨rfl, post_put⟩⟩⟩
      , ⟨_, rfl, fun sl hd hr ho => by
          refine r_move (hr 12 _ rfl rfl rfl) rfl ?_
          exact awl_nil ⟨rfl, post_put⟩⟩⟩
      , ⟨_, rfl, fun sl hd hr ho => by
          refine r_move (hr 13 _ rfl rfl rfl) rfl ?_
          exact awl_nil ⟨rfl, post_put⟩⟩⟩
      , ⟨_, rfl, fun sl hd hr ho => by
          refine r_index (hd 30 _ rfl rfl rfl) rfl (hd 31 _ rfl rfl rfl) T.sl22 T.sz35 (by omega) (get_map hp) rfl ?_
          exact awl_nil ⟨rfl, post_put⟩⟩⟩
      , ⟨_, rfl, fun sl hd hr ho => by
          first | (refine r_fieldcp (hd 32 _ rfl rfl rfl) T.f35_1 T.sz3 rfl ?_) | (refine r_fieldb (hd 32 _ rfl rfl rfl) T.f35_1 T.sz3 rfl ?_)
          exact awl_nil ⟨rfl, post_put⟩⟩⟩
      , ⟨_, rfl, fun sl hd hr ho => by
          refine r_load1 (hd 33 _ rfl rfl rfl) T.agg3 rfl ?_
          exact awl_nil ⟨rfl, post_put⟩⟩⟩
      (by rfl) ?_
    refine r_call0 hq rfl rfl (.cons (.ev rfl rfl) (.cons (.ev rfl rfl) (.cons (.ev rfl rfl) .nil))) (shows_ok theirs p.1 p.2 (by omega)) rfl T.en20 rfl (fun r hr => ?_)
    obtain rfl := hr
    refine r_assign rfl rfl ?_
    refine r_assign rfl rfl ?_
    refine r_assign rfl rfl ?_
    refine awl_nil ?_
    refine x_then ?_
    refine awp_seq ?_
    refine awp_seq ?_
    refine awp_region ?_
    refine r_move rfl rfl ?_
    refine r_move rfl rfl ?_
    refine r_move rfl rfl ?_
    refine r_call0 hq rfl rfl (.cons (.ev rfl rfl) (.cons (.ev rfl rfl) (.cons (.ev rfl rfl) .nil))) (ralikeB_ok _ _ table (shows_good hgb p).1 (shows_good hgt p).1 hb2) rfl T.en30 rfl (fun r hr => ?_)
    obtain rfl := hr
    refine awl_nil ?_
    refine x_then ?_
    refine awp_cond rfl (fun hc1 => ?_) (fun hc1 => ?_)
    ·
      have ht : takeAt (toldF table) base ours theirs p = none := by rw [takeAt, ← hb1, ← hb2]; cases b1 <;> cases b2 <;> first | rfl | (simp at hc1; done) | (simp at hc2; done) | (simp at hc3; done)
      have hcl : clashAt (toldF table) base ours theirs p = none := by rw [clashAt, ← hb1, ← hb2, ← hb3]; cases b1 <;> cases b2 <;> cases b3 <;> first | rfl | (simp at hc1; done) | (simp at hc2; done) | (simp at hc3; done)
      refine awp_exit ?_
      refine x_thenE ?_
      refine x_blockE ?_
      refine x_then ?_
      refine awp_region ?_
      refine r_move rfl rfl ?_
      refine r_ari _ rfl rfl rfl (wrap_id (by first | omega | (simp; omega))) rfl ?_
      refine r_assign rfl rfl ?_
      refine awl_nil ?_
      refine x_then ?_
      have et := fm_step (f := takeAt (toldF table) base ours theirs) hp
      have ec := fm_step (f := clashAt (toldF table) base ours theirs) hp
      rw [ht] at et
      rw [hcl] at ec
      simp only [Option.toList_some, Option.toList_none, List.append_nil] at et ec
      refine ⟨pl.length - (k + 1), ⟨111, [(0, .a (entsA base)), (1, .a (entsA ours)), (2, .a (entsA theirs)), (3, .a (numA table)), (10, .own 10 3 (((pl.take (k + 1)).filterMap (takeAt (toldF table) base ours theirs)).map Ent.cs)), (11, .own 11 5 (((pl.take (k + 1)).filterMap (clashAt (toldF table) base ours theirs)).map Cla.cs)), (12, .a (plesA pl)), (13, .a (.v (.int .i64 (((k + 1) : Int)))))], []⟩, ⟨rfl, (Slots.cons rfl (by first | exact .refl _ | exact .nilOwn _ _ | exact .nilSl _ | exact .ownSl _ _ _  | exact SV.le.ownEq (by first | rfl | (rw [et, List.map_append]; rfl) | (rw [ec, List.map_append]; rfl) | (rw [et]; first | done | rfl) | (rw [ec]; first | done | rfl)) | exact SV.le.of_eq (by first | rfl | (rw [et, List.map_append]; rfl) | (rw [ec, List.map_append]; rfl) | (rw [et]; first | done | rfl) | (rw [ec]; first | done | rfl))) (Slots.cons rfl (by first | exact .refl _ | exact .nilOwn _ _ | exact .nilSl _ | exact .ownSl _ _ _  | exact SV.le.ownEq (by first | rfl | (rw [et, List.map_append]; rfl) | (rw [ec, List.map_append]; rfl) | (rw [et]; first | done | rfl) | (rw [ec]; first | done | rfl)) | exact SV.le.of_eq (by first | rfl | (rw [et, List.map_append]; rfl) | (rw [ec, List.map_append]; rfl) | (rw [et]; first | done | rfl) | (rw [ec]; first | done | rfl))) (Slots.cons rfl (by first | exact .refl _ | exact .nilOwn _ _ | exact .nilSl _ | exact .ownSl _ _ _  | exact SV.le.ownEq (by first | rfl | (rw [et, List.map_append]; rfl) | (rw [ec, List.map_append]; rfl) | (rw [et]; first | done | rfl) | (rw [ec]; first | done | rfl)) | exact SV.le.of_eq (by first | rfl | (rw [et, List.map_append]; rfl) | (rw [ec, List.map_append]; rfl) | (rw [et]; first | done | rfl) | (rw [ec]; first | done | rfl))) (Slots.cons rfl (by first | exact .refl _ | exact .nilOwn _ _ | exact .nilSl _ | exact .ownSl _ _ _  | exact SV.le.ownEq (by first | rfl | (rw [et, List.map_append]; rfl) | (rw [ec, List.map_append]; rfl) | (rw [et]; first | done | rfl) | (rw [ec]; first | done | rfl)) | exact SV.le.of_eq (by first | rfl | (rw [et, List.map_append]; rfl) | (rw [ec, List.map_append]; rfl) | (rw [et]; first | done | rfl) | (rw [ec]; first | done | rfl))) (Slots.cons rfl (by first | exact .refl _ | exact .nilOwn _ _ | exact .nilSl _ | exact .ownSl _ _ _  | exact SV.le.ownEq (by first | rfl | (rw [et, List.map_append]; rfl) | (rw [ec, List.map_append]; rfl) | (rw [et]; first | done | rfl) | (rw [ec]; first | done | rfl)) | exact SV.le.of_eq (by first | rfl | (rw [et, List.map_append]; rfl) | (rw [ec, List.map_append]; rfl) | (rw [et]; first | done | rfl) | (rw [ec]; first | done | rfl))) (Slots.cons rfl (by first | exact .refl _ | exact .nilOwn _ _ | exact .nilSl _ | exact .ownSl _ _ _  | exact SV.le.ownEq (by first | rfl | (rw [et, List.map_append]; rfl) | (rw [ec, List.map_append]; rfl) | (rw [et]; first | done | rfl) | (rw [ec]; first | done | rfl)) | exact SV.le.of_eq (by first | rfl | (rw [et, List.map_append]; rfl) | (rw [ec, List.map_append]; rfl) | (rw [et]; first | done | rfl) | (rw [ec]; first | done | rfl))) (Slots.cons rfl (by first | exact .refl _ | exact .nilOwn _ _ | exact .nilSl _ | exact .ownSl _ _ _  | exact SV.le.ownEq (by first | rfl | (rw [et, List.map_append]; rfl) | (rw [ec, List.map_append]; rfl) | (rw [et]; first | done | rfl) | (rw [ec]; first | done | rfl)) | exact SV.le.of_eq (by first | rfl | (rw [et, List.map_append]; rfl) | (rw [ec, List.map_append]; rfl) | (rw [et]; first | done | rfl) | (rw [ec]; first | done | rfl))) (Slots.cons rfl (by first | exact .refl _ | exact .nilOwn _ _ | exact .nilSl _ | exact .ownSl _ _ _  | exact SV.le.ownEq (by first | rfl | (rw [et, List.map_append]; rfl) | (rw [ec, List.map_append]; rfl) | (rw [et]; first | done | rfl) | (rw [ec]; first | done | rfl)) | exact SV.le.of_eq (by first | rfl | (rw [et, List.map_append]; rfl) | (rw [ec, List.map_append]; rfl) | (rw [et]; first | done | rfl) | (rw [ec]; first | done | rfl))) Slots.nil)))))))), (by first | exact List.Sublist.refl _ | exact .cons_cons _ (.cons _ (.refl _)) | exact List.nil_sublist _ | exact .cons _ (.refl _) | exact .cons _ (.cons _ (.refl _)) | exact .cons _ (.cons _ (.cons _ (.refl _))) | exact .cons _ (.cons _ (.cons _ (.cons _ (.refl _)))) | exact .cons_cons _ (List.nil_sublist _))⟩, (by omega), ⟨k + 1, rfl, rfl, (by omega)⟩⟩
    ·
      refine awp_skip ?_
      refine x_then ?_
      refine awp_seq ?_
      refine awp_region ?_
      refine r_move rfl rfl ?_
      refine r_move rfl rfl ?_
      refine r_move rfl rfl ?_
      refine r_call0 hq rfl rfl (.cons (.ev rfl rfl) (.cons (.ev rfl rfl) (.cons (.ev rfl rfl) .nil))) (ralikeB_ok _ _ table (shows_good hgb p).1 (shows_good hgo p).1 hb1) rfl T.en30 rfl (fun r hr => ?_)
      obtain rfl := hr
      refine awl_nil ?_
      refine x_then ?_
      refine awp_cond rfl (fun hc2 => ?_) (fun hc2 => ?_)
      ·
        have ht : takeAt (toldF table) base ours theirs p = some ⟨p.1, p.2, shows theirs p⟩ := by rw [takeAt, ← hb1, ← hb2]; cases b1 <;> cases b2 <;> first | rfl | (simp at hc1; done) | (simp at hc2; done) | (simp at hc3; done)
        have hcl : clashAt (toldF table) base ours theirs p = none := by rw [clashAt, ← hb1, ← hb2, ← hb3]; cases b1 <;> cases b2 <;> cases b3 <;> first | rfl | (simp at hc1; done) | (simp at hc2; done) | (simp at hc3; done)
        refine awp_drawS [72, 73, 74, 75, 76, 77, 78, 79, 80, 81, 82, 83, 84, 85] [_, _, _, _, _, _, _, _, _, _, _, _, _, _] [] [(13, 85)] T.mixed rfl rfl rfl ⟨⟨⟨⟨⟨⟨⟨⟨⟨⟨⟨⟨⟨⟨trivial
          , ⟨_, rfl, fun sl hd hr ho => by
              refine r_move (hr 10 _ rfl rfl rfl) rfl ?_
              exact awl_nil ⟨rfl, post_put⟩⟩⟩
          , ⟨_, rfl, fun sl hd hr ho => by
              refine r_move (hr 12 _ rfl rfl rfl) rfl ?_
              exact awl_nil ⟨rfl, post_put⟩⟩⟩
          , ⟨_, rfl, fun sl hd hr ho => by
              refine r_move (hr 13 _ rfl rfl rfl) rfl ?_
              exact awl_nil ⟨rfl, post_put⟩⟩⟩
          , ⟨_, rfl, fun sl hd hr ho => by
              refine r_index (hd 1 _ rfl rfl rfl) rfl (hd 2 _ rfl rfl rfl) T.sl22 T.sz35 (by omega) (get_map hp) rfl ?_
              exact awl_nil ⟨rfl, post_put⟩⟩⟩
          , ⟨_, rfl, fun sl hd hr ho => by
              first | (refine r_fieldcp (hd 3 _ rfl rfl rfl) T.f35_0 T.sz3 rfl ?_) | (refine r_fieldb (hd 3 _ rfl rfl rfl) T.f35_0 T.sz3 rfl ?_)
              exact awl_nil ⟨rfl, post_put⟩⟩⟩
          , ⟨_, rfl, fun sl hd hr ho => by
              refine r_load1 (hd 4 _ rfl rfl rfl) T.agg3 rfl ?_
              exact awl_nil ⟨rfl, post_put⟩⟩⟩
          , ⟨_, rfl, fun sl hd hr ho => by
              refine r_move (hr 12 _ rfl rfl rfl) rfl ?_
              exact awl_nil ⟨rfl, post_put⟩⟩⟩
          , ⟨_, rfl, fun sl hd hr ho => by
              refine r_move (hr 13 _ rfl rfl rfl) rfl ?_
              exact awl_nil ⟨rfl, post_put⟩⟩⟩
          , ⟨_, rfl, fun sl hd hr ho => by
              refine r_index (hd 6 _ rfl rfl rfl) rfl (hd 7 _ rfl rfl rfl) T.sl22 T.sz35 (by omega) (get_map hp) rfl ?_
              exact awl_nil ⟨rfl, post_put⟩⟩⟩
          , ⟨_, rfl, fun sl hd hr ho => by
              first | (refine r_fieldcp (hd 8 _ rfl rfl rfl) T.f35_1 T.sz3 rfl ?_) | (refine r_fieldb (hd 8 _ rfl rfl rfl) T.f35_1 T.sz3 rfl ?_)
              exact awl_nil ⟨rfl, post_put⟩⟩⟩
          , ⟨_, rfl, fun sl hd hr ho => by
              refine r_load1 (hd 9 _ rfl rfl rfl) T.agg3 rfl ?_
              exact awl_nil ⟨rfl, post_put⟩⟩⟩
          , ⟨_, rfl, fun sl hd hr ho => by
              refine r_move (hr 16 _ rfl rfl rfl) rfl ?_
              exact awl_nil ⟨rfl, post_put⟩⟩⟩
          , ⟨_, rfl, fun sl hd hr ho => by
              refine r_build (parts := [(0, .tmp 77), (1, .tmp 82), (2, .tmp 83)]) rfl T.pl35 T.zero35 (parts_cons (hd 5 _ rfl rfl rfl) (parts_cons (hd 10 _ rfl rfl rfl) (parts_cons (hd 11 _ rfl rfl rfl) parts_nil))) rfl rfl ?_
              exact awl_nil ⟨rfl, post_put⟩⟩⟩
          , ⟨_, rfl, fun sl hd hr ho => by
              refine r_lit 85 (parts := [(0, .tmp 84)]) rfl T.sl22 T.sz35 T.zraw35 rfl rfl (parts_cons (hd 12 _ rfl rfl rfl) parts_nil) rfl rfl rfl rfl ?_
              exact awl_nil ⟨rfl, (post_dem (ho 85 (List.mem_of_elem_eq_true rfl)))⟩⟩⟩
          (by rfl) ?_
        refine r_append 10 rfl (by first | exact .own _ | exact .nil) rfl (by first | exact .sl _ | exact .own _ _ | exact .nil) T.sl22 T.sz35 (by decide) T.by35 T.zlen35 (by simp [chunks] <;> omega) (by simp [chunks] <;> omega) rfl ?_
        refine r_assign rfl rfl ?_
        refine awl_nil ?_
        refine x_block ?_
        refine x_then ?_
        refine awp_region ?_
        refine r_move rfl rfl ?_
        refine r_ari _ rfl rfl rfl (wrap_id (by first | omega | (simp; omega))) rfl ?_
        refine r_assign rfl rfl ?_
        refine awl_nil ?_
        refine x_then ?_
        have et := fm_step (f := takeAt (toldF table) base ours theirs) hp
        have ec := fm_step (f := clashAt (toldF table) base ours theirs) hp
        rw [ht] at et
        rw [hcl] at ec
        simp only [Option.toList_some, Option.toList_none, List.append_nil] at et ec
        refine ⟨pl.length - (k + 1), ⟨111, [(0, .a (entsA base)), (1, .a (entsA ours)), (2, .a (entsA theirs)), (3, .a (numA table)), (10, .own 10 3 (((pl.take (k + 1)).filterMap (takeAt (toldF table) base ours theirs)).map Ent.cs)), (11, .own 11 5 (((pl.take (k + 1)).filterMap (clashAt (toldF table) base ours theirs)).map Cla.cs)), (12, .a (plesA pl)), (13, .a (.v (.int .i64 (((k + 1) : Int)))))], []⟩, ⟨rfl, (Slots.cons rfl (by first | exact .refl _ | exact .nilOwn _ _ | exact .nilSl _ | exact .ownSl _ _ _  | exact SV.le.ownEq (by first | rfl | (rw [et, List.map_append]; rfl) | (rw [ec, List.map_append]; rfl) | (rw [et]; first | done | rfl) | (rw [ec]; first | done | rfl)) | exact SV.le.of_eq (by first | rfl | (rw [et, List.map_append]; rfl) | (rw [ec, List.map_append]; rfl) | (rw [et]; first | done | rfl) | (rw [ec]; first | done | rfl))) (Slots.cons rfl (by first | exact .refl _ | exact .nilOwn _ _ | exact .nilSl _ | exact .ownSl _ _ _  | exact SV.le.ownEq (by first | rfl | (rw [et, List.map_append]; rfl) | (rw [ec, List.map_append]; rfl) | (rw [et]; first | done | rfl) | (rw [ec]; first | done | rfl)) | exact SV.le.of_eq (by first | rfl | (rw [et, List.map_append]; rfl) | (rw [ec, List.map_append]; rfl) | (rw [et]; first | done | rfl) | (rw [ec]; first | done | rfl))) (Slots.cons rfl (by first | exact .refl _ | exact .nilOwn _ _ | exact .nilSl _ | exact .ownSl _ _ _  | exact SV.le.ownEq (by first | rfl | (rw [et, List.map_append]; rfl) | (rw [ec, List.map_append]; rfl) | (rw [et]; first | done | rfl) | (rw [ec]; first | done | rfl)) | exact SV.le.of_eq (by first | rfl | (rw [et, List.map_append]; rfl) | (rw [ec, List.map_append]; rfl) | (rw [et]; first | done | rfl) | (rw [ec]; first | done | rfl))) (Slots.cons rfl (by first | exact .refl _ | exact .nilOwn _ _ | exact .nilSl _ | exact .ownSl _ _ _  | exact SV.le.ownEq (by first | rfl | (rw [et, List.map_append]; rfl) | (rw [ec, List.map_append]; rfl) | (rw [et]; first | done | rfl) | (rw [ec]; first | done | rfl)) | exact SV.le.of_eq (by first | rfl | (rw [et, List.map_append]; rfl) | (rw [ec, List.map_append]; rfl) | (rw [et]; first | done | rfl) | (rw [ec]; first | done | rfl))) (Slots.cons rfl (by first | exact .refl _ | exact .nilOwn _ _ | exact .nilSl _ | exact .ownSl _ _ _  | exact SV.le.ownEq (by first | rfl | (rw [et, List.map_append]; rfl) | (rw [ec, List.map_append]; rfl) | (rw [et]; first | done | rfl) | (rw [ec]; first | done | rfl)) | exact SV.le.of_eq (by first | rfl | (rw [et, List.map_append]; rfl) | (rw [ec, List.map_append]; rfl) | (rw [et]; first | done | rfl) | (rw [ec]; first | done | rfl))) (Slots.cons rfl (by first | exact .refl _ | exact .nilOwn _ _ | exact .nilSl _ | exact .ownSl _ _ _  | exact SV.le.ownEq (by first | rfl | (rw [et, List.map_append]; rfl) | (rw [ec, List.map_append]; rfl) | (rw [et]; first | done | rfl) | (rw [ec]; first | done | rfl)) | exact SV.le.of_eq (by first | rfl | (rw [et, List.map_append]; rfl) | (rw [ec, List.map_append]; rfl) | (rw [et]; first | done | rfl) | (rw [ec]; first | done | rfl))) (Slots.cons rfl (by first | exact .refl _ | exact .nilOwn _ _ | exact .nilSl _ | exact .ownSl _ _ _  | exact SV.le.ownEq (by first | rfl | (rw [et, List.map_append]; rfl) | (rw [ec, List.map_append]; rfl) | (rw [et]; first | done | rfl) | (rw [ec]; first | done | rfl)) | exact SV.le.of_eq (by first | rfl | (rw [et, List.map_append]; rfl) | (rw [ec, List.map_append]; rfl) | (rw [et]; first | done | rfl) | (rw [ec]; first | done | rfl))) (Slots.cons rfl (by first | exact .refl _ | exact .nilOwn _ _ | exact .nilSl _ | exact .ownSl _ _ _  | exact SV.le.ownEq (by first | rfl | (rw [et, List.map_append]; rfl) | (rw [ec, List.map_append]; rfl) | (rw [et]; first | done | rfl) | (rw [ec]; first | done | rfl)) | exact SV.le.of_eq (by first | rfl | (rw [et, List.map_append]; rfl) | (rw [ec, List.map_append]; rfl) | (rw [et]; first | done | rfl) | (rw [ec]; first | done | rfl))) Slots.nil)))))))), (by first | exact List.Sublist.refl _ | exact .cons_cons _ (.cons _ (.refl _)) | exact List.nil_sublist _ | exact .cons _ (.refl _) | exact .cons _ (.cons _ (.refl _)) | exact .cons _ (.cons _ (.cons _ (.refl _))) | exact .cons _ (.cons _ (.cons _ (.cons _ (.refl _)))) | exact .cons_cons _ (List.nil_sublist _))⟩, (by omega), ⟨k + 1, rfl, rfl, (by omega)⟩⟩
      ·
        refine awp_seq ?_
        refine awp_region ?_
        refine r_move rfl rfl ?_
        refine r_move rfl rfl ?_
        refine r_move rfl rfl ?_
        refine r_call0 hq rfl rfl (.cons (.ev rfl rfl) (.cons (.ev rfl rfl) (.cons (.ev rfl rfl) .nil))) (ralikeB_ok _ _ table (shows_good hgo p).1 (shows_good hgt p).1 hb3) rfl T.en30 rfl (fun r hr => ?_)
        obtain rfl := hr
        refine r_not rfl rfl ?_
        refine awl_nil ?_
        refine x_then ?_
        refine awp_cond rfl (fun hc3 => ?_) (fun hc3 => ?_)
        ·
          have ht : takeAt (toldF table) base ours theirs p = none := by rw [takeAt, ← hb1, ← hb2]; cases b1 <;> cases b2 <;> first | rfl | (simp at hc1; done) | (simp at hc2; done) | (simp at hc3; done)
          have hcl : clashAt (toldF table) base ours theirs p = some ⟨p.1, p.2, shows base p, shows ours p, shows theirs p⟩ := by rw [clashAt, ← hb1, ← hb2, ← hb3]; cases b1 <;> cases b2 <;> cases b3 <;> first | rfl | (simp at hc1; done) | (simp at hc2; done) | (simp at hc3; done)
          refine awp_drawS [92, 93, 94, 95, 96, 97, 98, 99, 100, 101, 102, 103, 104, 105, 106, 107] [_, _, _, _, _, _, _, _, _, _, _, _, _, _, _, _] [] [(15, 107)] T.mixed rfl rfl rfl ⟨⟨⟨⟨⟨⟨⟨⟨⟨⟨⟨⟨⟨⟨⟨⟨trivial
            , ⟨_, rfl, fun sl hd hr ho => by
                refine r_move (hr 11 _ rfl rfl rfl) rfl ?_
                exact awl_nil ⟨rfl, post_put⟩⟩⟩
            , ⟨_, rfl, fun sl hd hr ho => by
                refine r_move (hr 12 _ rfl rfl rfl) rfl ?_
                exact awl_nil ⟨rfl, post_put⟩⟩⟩
            , ⟨_, rfl, fun sl hd hr ho => by
                refine r_move (hr 13 _ rfl rfl rfl) rfl ?_
                exact awl_nil ⟨rfl, post_put⟩⟩⟩
            , ⟨_, rfl, fun sl hd hr ho => by
                refine r_index (hd 1 _ rfl rfl rfl) rfl (hd 2 _ rfl rfl rfl) T.sl22 T.sz35 (by omega) (get_map hp) rfl ?_
                exact awl_nil ⟨rfl, post_put⟩⟩⟩
            , ⟨_, rfl, fun sl hd hr ho => by
                first | (refine r_fieldcp (hd 3 _ rfl rfl rfl) T.f35_0 T.sz3 rfl ?_) | (refine r_fieldb (hd 3 _ rfl rfl rfl) T.f35_0 T.sz3 rfl ?_)
                exact awl_nil ⟨rfl, post_put⟩⟩⟩
            , ⟨_, rfl, fun sl hd hr ho => by
                refine r_load1 (hd 4 _ rfl rfl rfl) T.agg3 rfl ?_
                exact awl_nil ⟨rfl, post_put⟩⟩⟩
            , ⟨_, rfl, fun sl hd hr ho => by
                refine r_move (hr 12 _ rfl rfl rfl) rfl ?_
                exact awl_nil ⟨rfl, post_put⟩⟩⟩
            , ⟨_, rfl, fun sl hd hr ho => by
                refine r_move (hr 13 _ rfl rfl rfl) rfl ?_
                exact awl_nil ⟨rfl, post_put⟩⟩⟩
            , ⟨_, rfl, fun sl hd hr ho => by
                refine r_index (hd 6 _ rfl rfl rfl) rfl (hd 7 _ rfl rfl rfl) T.sl22 T.sz35 (by omega) (get_map hp) rfl ?_
                exact awl_nil ⟨rfl, post_put⟩⟩⟩
            , ⟨_, rfl, fun sl hd hr ho => by
                first | (refine r_fieldcp (hd 8 _ rfl rfl rfl) T.f35_1 T.sz3 rfl ?_) | (refine r_fieldb (hd 8 _ rfl rfl rfl) T.f35_1 T.sz3 rfl ?_)
                exact awl_nil ⟨rfl, post_put⟩⟩⟩
            , ⟨_, rfl, fun sl hd hr ho => by
                refine r_load1 (hd 9 _ rfl rfl rfl) T.agg3 rfl ?_
                exact awl_nil ⟨rfl, post_put⟩⟩⟩
            , ⟨_, rfl, fun sl hd hr ho => by
                refine r_move (hr 14 _ rfl rfl rfl) rfl ?_
                exact awl_nil ⟨rfl, post_put⟩⟩⟩
            , ⟨_, rfl, fun sl hd hr ho => by
                refine r_move (hr 15 _ rfl rfl rfl) rfl ?_
                exact awl_nil ⟨rfl, post_put⟩⟩⟩
            , ⟨_, rfl, fun sl hd hr ho => by
                refine r_move (hr 16 _ rfl rfl rfl) rfl ?_
                exact awl_nil ⟨rfl, post_put⟩⟩⟩
            , ⟨_, rfl, fun sl hd hr ho => by
                refine r_build (parts := [(0, .tmp 97), (1, .tmp 102), (2, .tmp 103), (3, .tmp 104), (4, .tmp 105)]) rfl T.pl38 T.zero38 (parts_cons (hd 5 _ rfl rfl rfl) (parts_cons (hd 10 _ rfl rfl rfl) (parts_cons (hd 11 _ rfl rfl rfl) (parts_cons (hd 12 _ rfl rfl rfl) (parts_cons (hd 13 _ rfl rfl rfl) parts_nil))))) rfl rfl ?_
                exact awl_nil ⟨rfl, post_put⟩⟩⟩
            , ⟨_, rfl, fun sl hd hr ho => by
                refine r_lit 107 (parts := [(0, .tmp 106)]) rfl T.sl31 T.sz38 T.zraw38 rfl rfl (parts_cons (hd 14 _ rfl rfl rfl) parts_nil) rfl rfl rfl rfl ?_
                exact awl_nil ⟨rfl, (post_dem (ho 107 (List.mem_of_elem_eq_true rfl)))⟩⟩⟩
            (by rfl) ?_
          refine r_append 11 rfl (by first | exact .own _ | exact .nil) rfl (by first | exact .sl _ | exact .own _ _ | exact .nil) T.sl31 T.sz38 (by decide) T.by38 T.zlen38 (by simp [chunks] <;> omega) (by simp [chunks] <;> omega) rfl ?_
          refine r_assign rfl rfl ?_
          refine awl_nil ?_
          refine x_block ?_
          refine x_then ?_
          refine awp_region ?_
          refine r_move rfl rfl ?_
          refine r_ari _ rfl rfl rfl (wrap_id (by first | omega | (simp; omega))) rfl ?_
          refine r_assign rfl rfl ?_
          refine awl_nil ?_
          refine x_then ?_
          have et := fm_step (f := takeAt (toldF table) base ours theirs) hp
          have ec := fm_step (f := clashAt (toldF table) base ours theirs) hp
          rw [ht] at et
          rw [hcl] at ec
          simp only [Option.toList_some, Option.toList_none, List.append_nil] at et ec
          refine ⟨pl.length - (k + 1), ⟨111, [(0, .a (entsA base)), (1, .a (entsA ours)), (2, .a (entsA theirs)), (3, .a (numA table)), (10, .own 10 3 (((pl.take (k + 1)).filterMap (takeAt (toldF table) base ours theirs)).map Ent.cs)), (11, .own 11 5 (((pl.take (k + 1)).filterMap (clashAt (toldF table) base ours theirs)).map Cla.cs)), (12, .a (plesA pl)), (13, .a (.v (.int .i64 (((k + 1) : Int)))))], []⟩, ⟨rfl, (Slots.cons rfl (by first | exact .refl _ | exact .nilOwn _ _ | exact .nilSl _ | exact .ownSl _ _ _  | exact SV.le.ownEq (by first | rfl | (rw [et, List.map_append]; rfl) | (rw [ec, List.map_append]; rfl) | (rw [et]; first | done | rfl) | (rw [ec]; first | done | rfl)) | exact SV.le.of_eq (by first | rfl | (rw [et, List.map_append]; rfl) | (rw [ec, List.map_append]; rfl) | (rw [et]; first | done | rfl) | (rw [ec]; first | done | rfl))) (Slots.cons rfl (by first | exact .refl _ | exact .nilOwn _ _ | exact .nilSl _ | exact .ownSl _ _ _  | exact SV.le.ownEq (by first | rfl | (rw [et, List.map_append]; rfl) | (rw [ec, List.map_append]; rfl) | (rw [et]; first | done | rfl) | (rw [ec]; first | done | rfl)) | exact SV.le.of_eq (by first | rfl | (rw [et, List.map_append]; rfl) | (rw [ec, List.map_append]; rfl) | (rw [et]; first | done | rfl) | (rw [ec]; first | done | rfl))) (Slots.cons rfl (by first | exact .refl _ | exact .nilOwn _ _ | exact .nilSl _ | exact .ownSl _ _ _  | exact SV.le.ownEq (by first | rfl | (rw [et, List.map_append]; rfl) | (rw [ec, List.map_append]; rfl) | (rw [et]; first | done | rfl) | (rw [ec]; first | done | rfl)) | exact SV.le.of_eq (by first | rfl | (rw [et, List.map_append]; rfl) | (rw [ec, List.map_append]; rfl) | (rw [et]; first | done | rfl) | (rw [ec]; first | done | rfl))) (Slots.cons rfl (by first | exact .refl _ | exact .nilOwn _ _ | exact .nilSl _ | exact .ownSl _ _ _  | exact SV.le.ownEq (by first | rfl | (rw [et, List.map_append]; rfl) | (rw [ec, List.map_append]; rfl) | (rw [et]; first | done | rfl) | (rw [ec]; first | done | rfl)) | exact SV.le.of_eq (by first | rfl | (rw [et, List.map_append]; rfl) | (rw [ec, List.map_append]; rfl) | (rw [et]; first | done | rfl) | (rw [ec]; first | done | rfl))) (Slots.cons rfl (by first | exact .refl _ | exact .nilOwn _ _ | exact .nilSl _ | exact .ownSl _ _ _  | exact SV.le.ownEq (by first | rfl | (rw [et, List.map_append]; rfl) | (rw [ec, List.map_append]; rfl) | (rw [et]; first | done | rfl) | (rw [ec]; first | done | rfl)) | exact SV.le.of_eq (by first | rfl | (rw [et, List.map_append]; rfl) | (rw [ec, List.map_append]; rfl) | (rw [et]; first | done | rfl) | (rw [ec]; first | done | rfl))) (Slots.cons rfl (by first | exact .refl _ | exact .nilOwn _ _ | exact .nilSl _ | exact .ownSl _ _ _  | exact SV.le.ownEq (by first | rfl | (rw [et, List.map_append]; rfl) | (rw [ec, List.map_append]; rfl) | (rw [et]; first | done | rfl) | (rw [ec]; first | done | rfl)) | exact SV.le.of_eq (by first | rfl | (rw [et, List.map_append]; rfl) | (rw [ec, List.map_append]; rfl) | (rw [et]; first | done | rfl) | (rw [ec]; first | done | rfl))) (Slots.cons rfl (by first | exact .refl _ | exact .nilOwn _ _ | exact .nilSl _ | exact .ownSl _ _ _  | exact SV.le.ownEq (by first | rfl | (rw [et, List.map_append]; rfl) | (rw [ec, List.map_append]; rfl) | (rw [et]; first | done | rfl) | (rw [ec]; first | done | rfl)) | exact SV.le.of_eq (by first | rfl | (rw [et, List.map_append]; rfl) | (rw [ec, List.map_append]; rfl) | (rw [et]; first | done | rfl) | (rw [ec]; first | done | rfl))) (Slots.cons rfl (by first | exact .refl _ | exact .nilOwn _ _ | exact .nilSl _ | exact .ownSl _ _ _  | exact SV.le.ownEq (by first | rfl | (rw [et, List.map_append]; rfl) | (rw [ec, List.map_append]; rfl) | (rw [et]; first | done | rfl) | (rw [ec]; first | done | rfl)) | exact SV.le.of_eq (by first | rfl | (rw [et, List.map_append]; rfl) | (rw [ec, List.map_append]; rfl) | (rw [et]; first | done | rfl) | (rw [ec]; first | done | rfl))) Slots.nil)))))))), (by first | exact List.Sublist.refl _ | exact .cons_cons _ (.cons _ (.refl _)) | exact List.nil_sublist _ | exact .cons _ (.refl _) | exact .cons _ (.cons _ (.refl _)) | exact .cons _ (.cons _ (.cons _ (.refl _))) | exact .cons _ (.cons _ (.cons _ (.cons _ (.refl _)))) | exact .cons_cons _ (List.nil_sublist _))⟩, (by omega), ⟨k + 1, rfl, rfl, (by omega)⟩⟩
        ·
          have ht : takeAt (toldF table) base ours theirs p = none := by rw [takeAt, ← hb1, ← hb2]; cases b1 <;> cases b2 <;> first | rfl | (simp at hc1; done) | (simp at hc2; done) | (simp at hc3; done)
          have hcl : clashAt (toldF table) base ours theirs p = none := by rw [clashAt, ← hb1, ← hb2, ← hb3]; cases b1 <;> cases b2 <;> cases b3 <;> first | rfl | (simp at hc1; done) | (simp at hc2; done) | (simp at hc3; done)
          refine awp_skip ?_
          refine x_block ?_
          refine x_then ?_
          refine awp_region ?_
          refine r_move rfl rfl ?_
          refine r_ari _ rfl rfl rfl (wrap_id (by first | omega | (simp; omega))) rfl ?_
          refine r_assign rfl rfl ?_
          refine awl_nil ?_
          refine x_then ?_
          have et := fm_step (f := takeAt (toldF table) base ours theirs) hp
          have ec := fm_step (f := clashAt (toldF table) base ours theirs) hp
          rw [ht] at et
          rw [hcl] at ec
          simp only [Option.toList_some, Option.toList_none, List.append_nil] at et ec
          refine ⟨pl.length - (k + 1), ⟨111, [(0, .a (entsA base)), (1, .a (entsA ours)), (2, .a (entsA theirs)), (3, .a (numA table)), (10, .own 10 3 (((pl.take (k + 1)).filterMap (takeAt (toldF table) base ours theirs)).map Ent.cs)), (11, .own 11 5 (((pl.take (k + 1)).filterMap (clashAt (toldF table) base ours theirs)).map Cla.cs)), (12, .a (plesA pl)), (13, .a (.v (.int .i64 (((k + 1) : Int)))))], []⟩, ⟨rfl, (Slots.cons rfl (by first | exact .refl _ | exact .nilOwn _ _ | exact .nilSl _ | exact .ownSl _ _ _  | exact SV.le.ownEq (by first | rfl | (rw [et, List.map_append]; rfl) | (rw [ec, List.map_append]; rfl) | (rw [et]; first | done | rfl) | (rw [ec]; first | done | rfl)) | exact SV.le.of_eq (by first | rfl | (rw [et, List.map_append]; rfl) | (rw [ec, List.map_append]; rfl) | (rw [et]; first | done | rfl) | (rw [ec]; first | done | rfl))) (Slots.cons rfl (by first | exact .refl _ | exact .nilOwn _ _ | exact .nilSl _ | exact .ownSl _ _ _  | exact SV.le.ownEq (by first | rfl | (rw [et, List.map_append]; rfl) | (rw [ec, List.map_append]; rfl) | (rw [et]; first | done | rfl) | (rw [ec]; first | done | rfl)) | exact SV.le.of_eq (by first | rfl | (rw [et, List.map_append]; rfl) | (rw [ec, List.map_append]; rfl) | (rw [et]; first | done | rfl) | (rw [ec]; first | done | rfl))) (Slots.cons rfl (by first | exact .refl _ | exact .nilOwn _ _ | exact .nilSl _ | exact .ownSl _ _ _  | exact SV.le.ownEq (by first | rfl | (rw [et, List.map_append]; rfl) | (rw [ec, List.map_append]; rfl) | (rw [et]; first | done | rfl) | (rw [ec]; first | done | rfl)) | exact SV.le.of_eq (by first | rfl | (rw [et, List.map_append]; rfl) | (rw [ec, List.map_append]; rfl) | (rw [et]; first | done | rfl) | (rw [ec]; first | done | rfl))) (Slots.cons rfl (by first | exact .refl _ | exact .nilOwn _ _ | exact .nilSl _ | exact .ownSl _ _ _  | exact SV.le.ownEq (by first | rfl | (rw [et, List.map_append]; rfl) | (rw [ec, List.map_append]; rfl) | (rw [et]; first | done | rfl) | (rw [ec]; first | done | rfl)) | exact SV.le.of_eq (by first | rfl | (rw [et, List.map_append]; rfl) | (rw [ec, List.map_append]; rfl) | (rw [et]; first | done | rfl) | (rw [ec]; first | done | rfl))) (Slots.cons rfl (by first | exact .refl _ | exact .nilOwn _ _ | exact .nilSl _ | exact .ownSl _ _ _  | exact SV.le.ownEq (by first | rfl | (rw [et, List.map_append]; rfl) | (rw [ec, List.map_append]; rfl) | (rw [et]; first | done | rfl) | (rw [ec]; first | done | rfl)) | exact SV.le.of_eq (by first | rfl | (rw [et, List.map_append]; rfl) | (rw [ec, List.map_append]; rfl) | (rw [et]; first | done | rfl) | (rw [ec]; first | done | rfl))) (Slots.cons rfl (by first | exact .refl _ | exact .nilOwn _ _ | exact .nilSl _ | exact .ownSl _ _ _  | exact SV.le.ownEq (by first | rfl | (rw [et, List.map_append]; rfl) | (rw [ec, List.map_append]; rfl) | (rw [et]; first | done | rfl) | (rw [ec]; first | done | rfl)) | exact SV.le.of_eq (by first | rfl | (rw [et, List.map_append]; rfl) | (rw [ec, List.map_append]; rfl) | (rw [et]; first | done | rfl) | (rw [ec]; first | done | rfl))) (Slots.cons rfl (by first | exact .refl _ | exact .nilOwn _ _ | exact .nilSl _ | exact .ownSl _ _ _  | exact SV.le.ownEq (by first | rfl | (rw [et, List.map_append]; rfl) | (rw [ec, List.map_append]; rfl) | (rw [et]; first | done | rfl) | (rw [ec]; first | done | rfl)) | exact SV.le.of_eq (by first | rfl | (rw [et, List.map_append]; rfl) | (rw [ec, List.map_append]; rfl) | (rw [et]; first | done | rfl) | (rw [ec]; first | done | rfl))) (Slots.cons rfl (by first | exact .refl _ | exact .nilOwn _ _ | exact .nilSl _ | exact .ownSl _ _ _  | exact SV.le.ownEq (by first | rfl | (rw [et, List.map_append]; rfl) | (rw [ec, List.map_append]; rfl) | (rw [et]; first | done | rfl) | (rw [ec]; first | done | rfl)) | exact SV.le.of_eq (by first | rfl | (rw [et, List.map_append]; rfl) | (rw [ec, List.map_append]; rfl) | (rw [et]; first | done | rfl) | (rw [ec]; first | done | rfl))) Slots.nil)))))))), (by first | exact List.Sublist.refl _ | exact .cons_cons _ (.cons _ (.refl _)) | exact List.nil_sublist _ | exact .cons _ (.refl _) | exact .cons _ (.cons _ (.refl _)) | exact .cons _ (.cons _ (.cons _ (.refl _))) | exact .cons _ (.cons _ (.cons _ (.cons _ (.refl _)))) | exact .cons_cons _ (List.nil_sublist _))⟩, (by omega), ⟨k + 1, rfl, rfl, (by omega)⟩⟩
  ·
    have hge : pl.length ≤ k := by have := of_decide_eq_false hc0; simp at this; omega
    have hkl : pl.take k = pl := List.take_of_length_le hge
    refine awp_exit ?_
    refine x_thenE ?_
    refine x_thenE ?_
    refine x_blockE ?_
    refine x_then ?_
    refine awp_seq ?_
    refine awp_region ?_
    refine r_move rfl rfl ?_
    refine r_move rfl rfl ?_
    refine r_assign rfl rfl ?_
    refine r_assign rfl rfl ?_
    refine awl_nil ?_
    refine x_then ?_
    refine awp_ret ?_
    exact ⟨(.inl rfl), _, [], (.two (by first | exact .mk rfl rfl | exact .nil rfl) (by first | exact .mk rfl rfl | exact .nil rfl)), ⟨rfl, by rw [hkl, hpl]; rfl⟩, (List.nil_sublist _), (by simp)⟩

set_option maxHeartbeats 1000000 in
theorem rsame_ok (a b : List Ent) (table : Int) (hla : a.length ≤ 1000) (hlb : b.length ≤ 1000) (hga : Good a) (hgb : Good b) : AC Try.prog 17 [entsA a, entsA b, numA table] [] (fun r n => n = [] ∧ r = bA (sameF (toldF table) a b)) := by
  refine ac_of_awp (rs := [6]) (nt := 46) Try.func17 rfl rfl rfl rfl (fun w0 C0 hq => ?_)
  refine awp_seq ?_
  refine awp_region ?_
  refine r_assign rfl rfl ?_
  refine awl_nil ?_
  refine x_then ?_
  refine awp_seq ?_
  refine awp_region ?_
  refine r_move rfl rfl ?_
  refine r_move rfl rfl ?_
  refine r_lit 11 (parts := [(0, .tmp 9), (1, .tmp 10)]) rfl T.sl44 T.sz22 T.zraw22 rfl rfl rfl rfl rfl rfl rfl ?_
  refine r_call0 hq rfl rfl (.cons (.ev rfl rfl) .nil) (rplaces_ok [a, b] (by simp) (by simp; omega)) rfl T.en19 rfl (fun r hr => ?_)
  obtain ⟨pl, hpl⟩ : ∃ pl, pl = placesF [a, b] := ⟨_, rfl⟩
  rw [← hpl] at hr
  obtain rfl := hr
  have hpll : pl.length ≤ 3000 := by rw [hpl]; have := places_len [a, b]; simp at this; omega
  refine r_assign rfl rfl ?_
  refine awl_nil ?_
  refine x_then ?_
  refine awp_seq ?_
  refine awp_seq ?_
  refine awp_region ?_
  refine r_assign rfl rfl ?_
  refine awl_nil ?_
  refine x_then ?_
  refine awp_block ?_
  refine awp_loop (fun nn0 S => ∃ k : Nat, S = ⟨46, [(0, .a (entsA a)), (1, .a (entsA b)), (2, .a (numA table)), (7, .a (plesA pl)), (8, .a (.v (.int .i64 ((k : Int)))))], []⟩ ∧ nn0 = pl.length - k ∧ (k ≤ pl.length) ∧ ((pl.take k).all (fun p => alikeF (toldF table) (shows a p) (shows b p)) = true)) (pl.length - (0)) ⟨46, [(0, .a (entsA a)), (1, .a (entsA b)), (2, .a (numA table)), (7, .a (plesA pl)), (8, .a (.v (.int .i64 (((0) : Int)))))], []⟩ ⟨rfl, (Slots.cons rfl (by first | exact .refl _ | exact .nilOwn _ _ | exact .nilSl _ | exact .ownSl _ _ _  | exact SV.le.of_eq (by simp)) (Slots.cons rfl (by first | exact .refl _ | exact .nilOwn _ _ | exact .nilSl _ | exact .ownSl _ _ _  | exact SV.le.of_eq (by simp)) (Slots.cons rfl (by first | exact .refl _ | exact .nilOwn _ _ | exact .nilSl _ | exact .ownSl _ _ _  | exact SV.le.of_eq (by simp)) (Slots.cons rfl (by first | exact .refl _ | exact .nilOwn _ _ | exact .nilSl _ | exact .ownSl _ _ _  | exact SV.le.of_eq (by simp)) (Slots.cons rfl (by first | exact .refl _ | exact .nilOwn _ _ | exact .nilSl _ | exact .ownSl _ _ _  | exact SV.le.of_eq (by simp)) Slots.nil))))), (by first | exact List.Sublist.refl _ | exact .cons_cons _ (.cons _ (.refl _)) | exact List.nil_sublist _ | exact .cons _ (.refl _) | exact .cons _ (.cons _ (.refl _)) | exact .cons _ (.cons _ (.cons _ (.refl _))) | exact .cons _ (.cons _ (.cons _ (.cons _ (.refl _)))) | exact .cons_cons _ (List.nil_sublist _))⟩ ⟨0, rfl, rfl, Nat.zero_le _, rfl⟩ ?_
  rintro nn0 _ ⟨k, rfl, rfl, hk, ha⟩
  refine awp_seq ?_
  refine awp_seq ?_
  refine awp_region ?_
  refine r_move rfl rfl ?_
  refine r_move rfl rfl ?_
  first | (refine r_lenS rfl rfl T.sl22 rfl ?_) | (refine r_lenNil rfl T.sl22 rfl ?_)
  refine r_cmp rfl rfl rfl rfl ?_
  refine awl_nil ?_
  refine x_then ?_
  refine awp_cond rfl (fun hc0 => ?_) (fun hc0 => ?_)
  ·
    have hlt : k < pl.length := by have := of_decide_eq_true hc0; simpa using this
    obtain ⟨p, hp⟩ := get_lt hlt
    refine awp_skip ?_
    refine x_then ?_
    refine awp_seq ?_
    refine awp_block ?_
    refine awp_seq ?_
    refine awp_drawS [19, 20, 21, 22, 23, 24, 25, 26, 27, 28, 29, 30, 31, 32, 33, 34, 35, 36, 37, 38, 39, 40, 41, 42, 43] [_, _, _, _, _, _, _, _, _, _, _, _, _, _, _, _, _, _, _, _, _, _, _, _, _] [] [] T.mixed rfl rfl rfl ⟨⟨⟨⟨⟨⟨⟨⟨⟨⟨⟨⟨⟨⟨⟨⟨⟨⟨⟨⟨⟨⟨⟨⟨⟨trivial
      , ⟨_, rfl, fun sl hd hr ho => by
          refine r_move (hr 0 _ rfl rfl rfl) rfl ?_
          exact awl_nil ⟨rfl, post_put⟩⟩⟩
      , ⟨_, rfl, fun sl hd hr ho => by
          refine r_move (hr 7 _ rfl rfl rfl) rfl ?_
          exact awl_nil ⟨rfl, post_put⟩⟩⟩
      , ⟨_, rfl, fun sl hd hr ho => by
          refine r_move (hr 8 _ rfl rfl rfl) rfl ?_
          exact awl_nil ⟨rfl, post_put⟩⟩⟩
      , ⟨_, rfl, fun sl hd hr ho => by
          refine r_index (hd 1 _ rfl rfl rfl) rfl (hd 2 _ rfl rfl rfl) T.sl22 T.sz35 (by omega) (get_map hp) rfl ?_
          exact awl_nil ⟨rfl, post_put⟩⟩⟩
      , ⟨_, rfl, fun sl hd hr ho => by
          first | (refine r_fieldcp (hd 3 _ rfl rfl rfl) T.f35_0 T.sz3 rfl ?_) | (refine r_fieldb (hd 3 _ rfl rfl rfl) T.f35_0 T.sz3 rfl ?_)
          exact awl_nil ⟨rfl, post_put⟩⟩⟩
      , ⟨_, rfl, fun sl hd hr ho => by
          refine r_load1 (hd 4 _ rfl rfl rfl) T.agg3 rfl ?_
          exact awl_nil ⟨rfl, post_put⟩⟩⟩
      , ⟨_, rfl, fun sl hd hr ho => by
          refine r_move (hr 7 _ rfl rfl rfl) rfl ?_
          exact awl_nil ⟨rfl, post_put⟩⟩⟩
      , ⟨_, rfl, fun sl hd hr ho => by
          refine r_move (hr 8 _ rfl rfl rfl) rfl ?_
          exact awl_nil ⟨rfl, post_put⟩⟩⟩
      , ⟨_, rfl, fun sl hd hr ho => by
          refine r_index (hd 6 _ rfl rfl rfl) rfl (hd 7 _ rfl rfl rfl) T.sl22 T.sz35 (by omega) (get_map hp) rfl ?_
          exact awl_nil ⟨rfl, post_put⟩⟩⟩
      , ⟨_, rfl, fun sl hd hr ho => by
          first | (refine r_fieldcp (hd 8 _ rfl rfl rfl) T.f35_1 T.sz3 rfl ?_) | (refine r_fieldb (hd 8 _ rfl rfl rfl) T.f35_1 T.sz3 rfl ?_)
          exact awl_nil ⟨rfl, post_put⟩⟩⟩
      , ⟨_, rfl, fun sl hd hr ho => by
          refine r_load1 (hd 9 _ rfl rfl rfl) T.agg3 rfl ?_
          exact awl_nil ⟨rfl, post_put⟩⟩⟩
      , ⟨_, rfl, fun sl hd hr ho => by
          refine r_call0 hq rfl rfl (.cons (.ev (hd 0 _ rfl rfl rfl) rfl) (.cons (.ev (hd 5 _ rfl rfl rfl) rfl) (.cons (.ev (hd 10 _ rfl rfl rfl) rfl) .nil))) (shows_ok a p.1 p.2 (by omega)) rfl T.en20 rfl (fun r hr => ?_)
          obtain rfl := hr
          exact awl_nil ⟨rfl, post_put⟩⟩⟩
      , ⟨_, rfl, fun sl hd hr ho => by
          refine r_move (hr 1 _ rfl rfl rfl) rfl ?_
          exact awl_nil ⟨rfl, post_put⟩⟩⟩
      , ⟨_, rfl, fun sl hd hr ho => by
          refine r_move (hr 7 _ rfl rfl rfl) rfl ?_
          exact awl_nil ⟨rfl, post_put⟩⟩⟩
      , ⟨_, rfl, fun sl hd hr ho => by
          refine r_move (hr 8 _ rfl rfl rfl) rfl ?_
          exact awl_nil ⟨rfl, post_put⟩⟩⟩
      , ⟨_, rfl, fun sl hd hr ho => by
          refine r_index (hd 13 _ rfl rfl rfl) rfl (hd 14 _ rfl rfl rfl) T.sl22 T.sz35 (by omega) (get_map hp) rfl ?_
          exact awl_nil ⟨rfl, post_put⟩⟩⟩
      , ⟨_, rfl, fun sl hd hr ho => by
          first | (refine r_fieldcp (hd 15 _ rfl rfl rfl) T.f35_0 T.sz3 rfl ?_) | (refine r_fieldb (hd 15 _ rfl rfl rfl) T.f35_0 T.sz3 rfl ?_)
          exact awl_nil ⟨rfl, post_put⟩⟩⟩
      , ⟨_, rfl, fun sl hd hr ho => by
          refine r_load1 (hd 16 _ rfl rfl rfl) T.agg3 rfl ?_
          exact awl_nil ⟨rfl, post_put⟩⟩⟩
      , ⟨_, rfl, fun sl hd hr ho => by
          refine r_move (hr 7 _ rfl rfl rfl) rfl ?_
          exact awl_nil ⟨rfl, post_put⟩⟩⟩
      , ⟨_, rfl, fun sl hd hr ho => by
          refine r_move (hr 8 _ rfl rfl rfl) rfl ?_
          exact awl_nil ⟨rfl, post_put⟩⟩⟩
      , ⟨_, rfl, fun sl hd hr ho => by
          refine r_index (hd 18 _ rfl rfl rfl) rfl (hd 19 _ rfl rfl rfl) T.sl22 T.sz35 (by omega) (get_map hp) rfl ?_
          exact awl_nil ⟨rfl, post_put⟩⟩⟩
      , ⟨_, rfl, fun sl hd hr ho => by
          first | (refine r_fieldcp (hd 20 _ rfl rfl rfl) T.f35_1 T.sz3 rfl ?_) | (refine r_fieldb (hd 20 _ rfl rfl rfl) T.f35_1 T.sz3 rfl ?_)
          exact awl_nil ⟨rfl, post_put⟩⟩⟩
      , ⟨_, rfl, fun sl hd hr ho => by
          refine r_load1 (hd 21 _ rfl rfl rfl) T.agg3 rfl ?_
          exact awl_nil ⟨rfl, post_put⟩⟩⟩
      , ⟨_, rfl, fun sl hd hr ho => by
          refine r_call0 hq rfl rfl (.cons (.ev (hd 12 _ rfl rfl rfl) rfl) (.cons (.ev (hd 17 _ rfl rfl rfl) rfl) (.cons (.ev (hd 22 _ rfl rfl rfl) rfl) .nil))) (shows_ok b p.1 p.2 (by omega)) rfl T.en20 rfl (fun r hr => ?_)
          obtain rfl := hr
          exact awl_nil ⟨rfl, post_put⟩⟩⟩
      , ⟨_, rfl, fun sl hd hr ho => by
          refine r_move (hr 2 _ rfl rfl rfl) rfl ?_
          exact awl_nil ⟨rfl, post_put⟩⟩⟩
      (by rfl) ?_
    refine r_call0 hq rfl rfl (.cons (.ev rfl rfl) (.cons (.ev rfl rfl) (.cons (.ev rfl rfl) .nil))) (ralike_ok _ _ table (shows_good hga p).1 (shows_good hgb p).1) rfl T.en30 rfl (fun r hr => ?_)
    obtain rfl := hr
    refine r_not rfl rfl ?_
    refine awl_nil ?_
    refine x_then ?_
    refine awp_cond rfl (fun hc1 => ?_) (fun hc1 => ?_)
    ·
      refine awp_seq ?_
      refine awp_region ?_
      refine r_assign rfl rfl ?_
      refine awl_nil ?_
      refine x_then ?_
      refine awp_ret ?_
      refine x_blockR ?_
      refine x_thenR ?_
      refine x_thenR ?_
      refine x_blockR ?_
      refine x_thenR ?_
      exact ⟨(.inl rfl), _, [], (.one (by first | exact .mk rfl rfl | exact .nil rfl)), ⟨rfl, by
        have h1 : alikeF (toldF table) (shows a p) (shows b p) = false := by simpa using hc1
        have h2 : sameF (toldF table) a b = false := by
          rw [sameF, ← hpl, List.all_eq_false]
          exact ⟨p, List.mem_of_getElem? hp, by simp [h1]⟩
        rw [h2]; rfl⟩, (List.nil_sublist _), (by simp)⟩
    ·
      refine awp_skip ?_
      refine x_block ?_
      refine x_then ?_
      refine awp_region ?_
      refine r_move rfl rfl ?_
      refine r_ari _ rfl rfl rfl (wrap_id (by first | omega | (simp; omega))) rfl ?_
      refine r_assign rfl rfl ?_
      refine awl_nil ?_
      refine x_then ?_
      refine ⟨pl.length - (k + 1), ⟨46, [(0, .a (entsA a)), (1, .a (entsA b)), (2, .a (numA table)), (7, .a (plesA pl)), (8, .a (.v (.int .i64 (((k + 1) : Int)))))], []⟩, ⟨rfl, (Slots.cons rfl (by first | exact .refl _ | exact .nilOwn _ _ | exact .nilSl _ | exact .ownSl _ _ _  | exact SV.le.of_eq (by simp)) (Slots.cons rfl (by first | exact .refl _ | exact .nilOwn _ _ | exact .nilSl _ | exact .ownSl _ _ _  | exact SV.le.of_eq (by simp)) (Slots.cons rfl (by first | exact .refl _ | exact .nilOwn _ _ | exact .nilSl _ | exact .ownSl _ _ _  | exact SV.le.of_eq (by simp)) (Slots.cons rfl (by first | exact .refl _ | exact .nilOwn _ _ | exact .nilSl _ | exact .ownSl _ _ _  | exact SV.le.of_eq (by simp)) (Slots.cons rfl (by first | exact .refl _ | exact .nilOwn _ _ | exact .nilSl _ | exact .ownSl _ _ _  | exact SV.le.of_eq (by simp)) Slots.nil))))), (by first | exact List.Sublist.refl _ | exact .cons_cons _ (.cons _ (.refl _)) | exact List.nil_sublist _ | exact .cons _ (.refl _) | exact .cons _ (.cons _ (.refl _)) | exact .cons _ (.cons _ (.cons _ (.refl _))) | exact .cons _ (.cons _ (.cons _ (.cons _ (.refl _)))) | exact .cons_cons _ (List.nil_sublist _))⟩, (by omega), ⟨k + 1, rfl, rfl, (by omega), (all_takeB hp ha (by simpa using hc1))⟩⟩
  ·
    have hge : pl.length ≤ k := by have := of_decide_eq_false hc0; simp at this; omega
    rw [List.take_of_length_le hge] at ha
    refine awp_exit ?_
    refine x_thenE ?_
    refine x_thenE ?_
    refine x_blockE ?_
    refine x_then ?_
    refine awp_seq ?_
    refine awp_region ?_
    refine r_assign rfl rfl ?_
    refine awl_nil ?_
    refine x_then ?_
    refine awp_ret ?_
    exact ⟨(.inl rfl), _, [], (.one (by first | exact .mk rfl rfl | exact .nil rfl)), ⟨rfl, by rw [sameF, ← hpl, ha]; rfl⟩, (List.nil_sublist _), (by simp)⟩

theorem awake_ok : AC Try.prog 11 [] [] (fun r n => n = [] ∧ r = bA true) := by
  refine ac_of_awp (rs := [0]) (nt := 56) Try.func11 rfl rfl rfl rfl (fun w0 C0 hq => ?_)
  refine awp_seq ?_
  refine awp_region ?_
  refine r_assign rfl rfl ?_
  refine awl_nil ?_
  refine x_then ?_
  refine awp_seq ?_
  refine awp_region ?_
  refine r_call0 hq rfl rfl (.cons (.ev rfl rfl) .nil) (one_ok 1) rfl T.en24 rfl (fun r hr => ?_)
  obtain rfl := hr
  refine r_call0 hq rfl rfl (.cons (.ev rfl rfl) .nil) (one_ok 1) rfl T.en24 rfl (fun r hr => ?_)
  obtain rfl := hr
  refine r_call0 hq rfl rfl (.cons (.ev rfl rfl) .nil) (one_ok 5) rfl T.en24 rfl (fun r hr => ?_)
  obtain rfl := hr
  refine r_call0 hq rfl rfl (.cons (.ev rfl rfl) (.cons (.ev rfl rfl) (.cons (.ev rfl rfl) (.cons (.ev rfl rfl) .nil)))) (three_ok .nil [⟨0, 0, 1⟩] [⟨0, 0, 1⟩] [⟨0, 0, 5⟩] (by simp) (by simp) (by simp) (by simp [Good]) (by simp [Good]) (by simp [Good])) rfl T.en13 rfl (fun r hr => ?_)
  obtain rfl := hr
  rw [show takeF (fun _ _ => false) [⟨0, 0, 1⟩] [⟨0, 0, 1⟩] [⟨0, 0, 5⟩] = [⟨0, 0, 5⟩] from by decide, show clashF (fun _ _ => false) [⟨0, 0, 1⟩] [⟨0, 0, 1⟩] [⟨0, 0, 5⟩] = [] from by decide]
  refine r_move rfl rfl ?_
  refine r_extract rfl rfl rfl ?_
  refine r_extract rfl rfl rfl ?_
  refine r_assign rfl rfl ?_
  refine r_assign rfl rfl ?_
  refine awl_nil ?_
  refine x_then ?_
  refine awp_seq ?_
  refine awp_region ?_
  refine r_call0 hq rfl rfl (.cons (.ev rfl rfl) .nil) (one_ok 1) rfl T.en24 rfl (fun r hr => ?_)
  obtain rfl := hr
  refine r_call0 hq rfl rfl (.cons (.ev rfl rfl) .nil) (one_ok 4) rfl T.en24 rfl (fun r hr => ?_)
  obtain rfl := hr
  refine r_call0 hq rfl rfl (.cons (.ev rfl rfl) .nil) (one_ok 5) rfl T.en24 rfl (fun r hr => ?_)
  obtain rfl := hr
  refine r_call0 hq rfl rfl (.cons (.ev rfl rfl) (.cons (.ev rfl rfl) (.cons (.ev rfl rfl) (.cons (.ev rfl rfl) .nil)))) (three_ok .nil [⟨0, 0, 1⟩] [⟨0, 0, 4⟩] [⟨0, 0, 5⟩] (by simp) (by simp) (by simp) (by simp [Good]) (by simp [Good]) (by simp [Good])) rfl T.en13 rfl (fun r hr => ?_)
  obtain rfl := hr
  rw [show takeF (fun _ _ => false) [⟨0, 0, 1⟩] [⟨0, 0, 4⟩] [⟨0, 0, 5⟩] = [] from by decide, show clashF (fun _ _ => false) [⟨0, 0, 1⟩] [⟨0, 0, 4⟩] [⟨0, 0, 5⟩] = [⟨0, 0, 1, 4, 5⟩] from by decide]
  refine r_move rfl rfl ?_
  refine r_extract rfl rfl rfl ?_
  refine r_extract rfl rfl rfl ?_
  refine r_assign rfl rfl ?_
  refine r_assign rfl rfl ?_
  refine awl_nil ?_
  refine x_then ?_
  refine awp_seq ?_
  refine awp_region ?_
  refine r_move rfl rfl ?_
  first | (refine r_lenS rfl rfl T.sl22 rfl ?_) | (refine r_lenNil rfl T.sl22 rfl ?_)
  refine r_cmp rfl rfl rfl rfl ?_
  refine r_move rfl rfl ?_
  refine g_run rfl rfl rfl ?_
  refine r_move rfl rfl ?_
  refine g_run rfl rfl rfl ?_
  refine r_index rfl rfl rfl T.sl22 T.sz35 (by decide) rfl rfl ?_
  refine g_run rfl rfl rfl ?_
  first | (refine r_fieldcp rfl T.f35_2 T.sz23 rfl ?_) | (refine r_fieldb rfl T.f35_2 T.sz23 rfl ?_)
  refine g_run rfl rfl rfl ?_
  refine r_load1 rfl T.agg23 rfl ?_
  refine g_run rfl rfl rfl ?_
  refine r_cmp rfl rfl rfl rfl ?_
  refine r_pickT rfl rfl rfl rfl ?_
  refine r_move rfl rfl ?_
  refine g_run rfl rfl rfl ?_
  refine r_move rfl rfl ?_
  refine g_run rfl rfl rfl ?_
  first | (refine r_lenS rfl rfl T.sl26 rfl ?_) | (refine r_lenNil rfl T.sl26 rfl ?_)
  refine g_run rfl rfl rfl ?_
  refine r_cmp rfl rfl rfl rfl ?_
  refine r_pickT rfl rfl rfl rfl ?_
  refine r_move rfl rfl ?_
  refine g_run rfl rfl rfl ?_
  refine r_move rfl rfl ?_
  refine g_run rfl rfl rfl ?_
  first | (refine r_lenS rfl rfl T.sl22 rfl ?_) | (refine r_lenNil rfl T.sl22 rfl ?_)
  refine g_run rfl rfl rfl ?_
  refine r_cmp rfl rfl rfl rfl ?_
  refine r_pickT rfl rfl rfl rfl ?_
  refine r_move rfl rfl ?_
  refine g_run rfl rfl rfl ?_
  refine r_move rfl rfl ?_
  refine g_run rfl rfl rfl ?_
  first | (refine r_lenS rfl rfl T.sl26 rfl ?_) | (refine r_lenNil rfl T.sl26 rfl ?_)
  refine g_run rfl rfl rfl ?_
  refine r_cmp rfl rfl rfl rfl ?_
  refine r_pickT rfl rfl rfl rfl ?_
  refine r_move rfl rfl ?_
  refine g_run rfl rfl rfl ?_
  refine r_move rfl rfl ?_
  refine g_run rfl rfl rfl ?_
  refine r_index rfl rfl rfl T.sl26 T.sz37 (by decide) rfl rfl ?_
  refine g_run rfl rfl rfl ?_
  refine r_loadA rfl T.agg37 T.sz37 rfl rfl ?_
  refine g_run rfl rfl rfl ?_
  refine r_build (parts := [(2, .const ((Go.Value.int Go.IntKind.u64 1))), (3, .const ((Go.Value.int Go.IntKind.u64 4))), (4, .const ((Go.Value.int Go.IntKind.u64 5)))]) rfl T.pl37 T.zero37 rfl rfl rfl ?_
  refine g_run rfl rfl rfl ?_
  refine r_seq (us := [0, 0, 1, 4, 5]) (vs := [0, 0, 1, 4, 5]) rfl rfl T.mix37 (isVal_cells rfl) (isVal_cells rfl) rfl rfl rfl ?_
  refine r_pickT rfl rfl rfl rfl ?_
  refine r_move rfl rfl ?_
  refine g_run rfl rfl (by simp) ?_
  refine r_move rfl rfl ?_
  refine g_run rfl rfl (by simp) ?_
  refine r_call0 hq rfl rfl (.cons (.ev rfl rfl) .nil) (one_ok 5) rfl T.en24 rfl (fun r hr => ?_)
  obtain rfl := hr
  refine g_run rfl rfl (by simp) ?_
  refine r_call0 hq rfl rfl (.cons (.ev rfl rfl) (.cons (.ev rfl rfl) (.cons (.ev rfl rfl) .nil))) (same_ok .nil rfl rfl [⟨0, 0, 5⟩] [⟨0, 0, 5⟩] (by simp) (by simp) (by simp [Good]) (by simp [Good])) rfl T.en16 rfl (fun r hr => ?_)
  obtain rfl := hr
  rw [show sameF (fun _ _ => false) [⟨0, 0, 5⟩] [⟨0, 0, 5⟩] = true from by decide]
  refine r_pickT rfl (by simp) rfl rfl ?_
  refine r_assign rfl rfl ?_
  refine awl_nil ?_
  refine x_then ?_
  refine awp_ret ?_
  exact ⟨(.inl rfl), _, [], (.one (by first | exact .mk rfl rfl | exact .nil rfl)), ⟨rfl, rfl⟩, (List.nil_sublist _), (by simp)⟩

end Go.Proofs.Ytcgjgnkpebpimaa.A

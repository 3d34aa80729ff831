/- Layer 63: past.Of and TimelinePast, walked. -/
import Derived.Test.YtmbfmnhcahhciaaProg
import Derived.KernelRfl
import Derived.Test.YtmbfmnhcahhciaaX63G
import Derived.Test.YtmbfmnhcahhciaaX63V
namespace Go.Proofs.Ytmbfmnhcahhciaa.A
open Go Go.RowKit
set_option linter.unusedVariables false
set_option linter.unusedSimpArgs false
set_option maxRecDepth 100000

theorem TF.f71_1 : fieldT Try.prog 71 1 = some (1, 4) := by kernel_rfl
theorem TF.f71_2 : fieldT Try.prog 71 2 = some (2, 42) := by kernel_rfl
theorem TF.pl71 : placesT Try.prog 71 = some [(0, 1), (1, 1), (2, 1)] := by kernel_rfl
theorem TF.zero71 : ZeroT Try.prog 71 [.v (.int .u64 0), .v (.bool false), .sl 1 []] := ⟨[(.int .u64 0), (.bool false), (.slice none 0 0)], by kernel_rfl, (.cons (.refl _) (.cons (.refl _) (.cons (.nil 1) .nil)))⟩
theorem TF.sz71 : szT Try.prog 71 = some 3 := by kernel_rfl
theorem TF.sl64 : sliceT Try.prog 64 = some 71 := by kernel_rfl
theorem TF.agg71 : aggT Try.prog 71 = some true := by kernel_rfl
theorem TF.zraw71 : zeroT Try.prog 71 = some [(.int .u64 0), (.bool false), (.slice none 0 0)] := by kernel_rfl
theorem TF.by71 : bytesT Try.prog 71 = some 40 := by kernel_rfl
theorem TF.zlen71 : (zeroT Try.prog 71).map (·.length) = some 3 := by kernel_rfl
theorem TF.en51 : entersT Try.prog 51 := enters_of Try.func51 (by kernel_rfl) (by kernel_rfl)
theorem TF.en28 : entersT Try.prog 28 := enters_of Try.func28 (by kernel_rfl) (by kernel_rfl)
theorem TF.f71_0 : fieldT Try.prog 71 0 = some (0, 30) := by kernel_rfl

theorem findR_none {l : List File} {n : ByteArray} (h : l.find? (fun f => decide (f.name = n)) = none) : findR l n = .tup [.agg (File.cs ⟨E0, []⟩), boolA false] := by unfold findR; rw [h]
theorem findR_some {l : List File} {n : ByteArray} {f : File} (h : l.find? (fun f => decide (f.name = n)) = some f) : findR l n = .tup [.agg (File.cs ⟨n, f.data⟩), boolA true] := by unfold findR; rw [h]

theorem valike_ok (v w : Ver) : AC Try.prog 51 [.agg (Ver.cs v), .agg (Ver.cs w)] [] (fun r n => n = [] ∧ r = boolA (v.alike w)) := by
  refine ac_of_awp (rs := [4]) (nt := 17) Try.func51 rfl rfl rfl rfl (fun w0 C0 hq => ?_)
  refine awp_seq ?_
  refine awp_region ?_
  refine r_box rfl rfl rfl (fun b2 => ?_)
  refine r_box rfl rfl rfl (fun b3 => ?_)
  refine r_assign rfl rfl ?_
  refine awl_nil ?_
  refine x_then ?_
  refine awp_seq ?_
  refine awp_region ?_
  first | (refine r_fieldb rfl TF.f71_1 TF.sz4 rfl ?_) | (refine r_fieldcp rfl TF.f71_1 TF.sz4 rfl ?_)
  refine r_load1b 1 rfl rfl rfl TF.agg4 rfl ?_
  first | (refine r_fieldb rfl TF.f71_1 TF.sz4 rfl ?_) | (refine r_fieldcp rfl TF.f71_1 TF.sz4 rfl ?_)
  refine r_load1b 0 rfl rfl rfl TF.agg4 rfl ?_
  refine r_beq rfl rfl TF.un4 rfl ?_
  refine r_move rfl rfl ?_
  refine g_cases (t' := 10) rfl (fun hg10 => ?_) (fun hg10 => ?_)
  ·
    refine g_run rfl rfl hg10 ?_
    first | (refine r_fieldb rfl TF.f71_2 TF.sz42 rfl ?_) | (refine r_fieldcp rfl TF.f71_2 TF.sz42 rfl ?_)
    refine g_run rfl rfl hg10 ?_
    refine r_load1b 1 rfl rfl rfl TF.agg42 rfl ?_
    refine g_run rfl rfl hg10 ?_
    first | (refine r_fieldb rfl TF.f71_2 TF.sz42 rfl ?_) | (refine r_fieldcp rfl TF.f71_2 TF.sz42 rfl ?_)
    refine g_run rfl rfl hg10 ?_
    refine r_load1b 0 rfl rfl rfl TF.agg42 rfl ?_
    refine g_run rfl rfl hg10 ?_
    refine r_call0 hq rfl rfl (.cons (.ev rfl rfl) (.cons (.ev rfl rfl) .nil)) (equal_ok v.data w.data) rfl TF.en36 rfl (fun r hr => ?_)
    obtain rfl := hr
    refine r_pickT rfl hg10 rfl rfl ?_
    refine r_assign rfl rfl ?_
    refine awl_nil ?_
    refine x_then ?_
    refine awp_ret ?_
    exact ⟨(.inl rfl), _, [], (.one (by first | exact .mk rfl rfl | exact .nil rfl)), ⟨rfl, by rw [Ver.alike, hg10]; rfl⟩, (List.nil_sublist _), (by simp)⟩
  ·
    refine g_skip rfl rfl hg10 rfl ?_
    refine g_skip rfl rfl hg10 rfl ?_
    refine g_skip rfl rfl hg10 rfl ?_
    refine g_skip rfl rfl hg10 rfl ?_
    refine g_skip rfl rfl hg10 rfl ?_
    refine r_pickF rfl hg10 rfl rfl ?_
    refine r_assign rfl rfl ?_
    refine awl_nil ?_
    refine x_then ?_
    refine awp_ret ?_
    exact ⟨(.inl rfl), _, [], (.one (by first | exact .mk rfl rfl | exact .nil rfl)), ⟨rfl, by rw [Ver.alike, hg10]; rfl⟩, (List.nil_sublist _), (by simp)⟩

set_option maxHeartbeats 1000000 in
theorem pof_ok (ms : List Int) (at_ : AT) (n : ByteArray) (hml : ms.length ≤ 1000) (hg : ∀ m, GoodF (at_ m).1) {fa : Nat} {ca : List AV} (hea : entersT Try.prog fa) (ha : ∀ m, AC Try.prog fa (.v (.int .u64 m) :: ca) [] (fun r n => n = [] ∧ r = .tup [files (at_ m).1, boolA (at_ m).2])) : AC Try.prog 28 [numsA ms, .fn fa ca, strA n] [] (fun r m => m = [] ∧ r = versA (versOf at_ n ms)) := by
  refine ac_of_awp (rs := [6]) (nt := 65) Try.func28 rfl rfl rfl rfl (fun w0 C0 hq => ?_)
  refine awp_seq ?_
  refine awp_region ?_
  refine r_assign rfl rfl ?_
  refine awl_nil ?_
  refine x_then ?_
  refine awp_seq ?_
  refine awp_seq ?_
  refine awp_region ?_
  refine r_move rfl rfl ?_
  first | (refine r_fn_eq rfl TF.un26 rfl ?_) | (refine r_nofn_eq rfl TF.un26 rfl ?_)
  refine awl_nil ?_
  refine x_then ?_
  refine awp_cond rfl (fun hc0 => ?_) (fun hc0 => ?_)
  ·
    exfalso; cases hc0
  ·
    refine awp_skip ?_
    refine x_then ?_
    refine awp_seq ?_
    refine awp_region ?_
    refine r_assign rfl rfl ?_
    refine awl_nil ?_
    refine x_then ?_
    refine awp_seq ?_
    refine awp_seq ?_
    refine awp_region ?_
    refine r_move rfl rfl ?_
    first | (refine r_lenS rfl rfl TF.sl22 rfl ?_) | (refine r_lenNil rfl TF.sl22 rfl ?_) | (refine r_lenV rfl TF.sl22 rfl ?_)
    refine r_move rfl rfl ?_
    refine awl_nil ?_
    refine x_then ?_
    refine awp_block ?_
    refine awp_loop (fun nn0 S => ∃ k : Nat, S = ⟨65, [(1, .a (.fn fa ca)), (2, .a (strA n)), (7, .own 7 3 (((ms.take k).foldl (stepV at_ n) []).map Ver.cs)), (17, .a (numsA ms)), (18, .a (.v (.int .i64 ((ms.map fun x => [AV.v (.int .u64 x)]).length)))), (19, .a (.v (.int .i64 ((k : Int)))))], []⟩ ∧ nn0 = ms.length - k ∧ (k ≤ ms.length)) (ms.length - (0)) ⟨65, [(1, .a (.fn fa ca)), (2, .a (strA n)), (7, .own 7 3 (((ms.take (0)).foldl (stepV at_ n) []).map Ver.cs)), (17, .a (numsA ms)), (18, .a (.v (.int .i64 ((ms.map fun x => [AV.v (.int .u64 x)]).length)))), (19, .a (.v (.int .i64 (((0) : Int)))))], []⟩ ⟨rfl, (Slots.cons rfl (by first | exact .refl _ | exact .nilOwn _ _ | exact .nilSl _ | exact .ownSl _ _ _  | exact SV.le.of_eq (by simp)) (Slots.cons rfl (by first | exact .refl _ | exact .nilOwn _ _ | exact .nilSl _ | exact .ownSl _ _ _  | exact SV.le.of_eq (by simp)) (Slots.cons rfl (by first | exact .refl _ | exact .nilOwn _ _ | exact .nilSl _ | exact .ownSl _ _ _  | exact SV.le.of_eq (by simp)) (Slots.cons rfl (by first | exact .refl _ | exact .nilOwn _ _ | exact .nilSl _ | exact .ownSl _ _ _  | exact SV.le.of_eq (by simp)) (Slots.cons rfl (by first | exact .refl _ | exact .nilOwn _ _ | exact .nilSl _ | exact .ownSl _ _ _  | exact SV.le.of_eq (by simp)) (Slots.cons rfl (by first | exact .refl _ | exact .nilOwn _ _ | exact .nilSl _ | exact .ownSl _ _ _  | exact SV.le.of_eq (by simp)) Slots.nil)))))), (by first | exact List.Sublist.refl _ | exact .cons_cons _ (.cons _ (.refl _)) | exact List.nil_sublist _ | exact .cons _ (.refl _) | exact .cons _ (.cons _ (.refl _)) | exact .cons _ (.cons _ (.cons _ (.refl _))) | exact .cons _ (.cons _ (.cons _ (.cons _ (.refl _)))) | exact .cons_cons _ (List.nil_sublist _))⟩ ⟨0, rfl, rfl, Nat.zero_le _⟩ ?_
    rintro nn0 _ ⟨k, rfl, rfl, hk⟩
    refine awp_seq ?_
    refine awp_region ?_
    refine r_cmp rfl rfl rfl rfl ?_
    refine awl_nil ?_
    refine x_then ?_
    refine awp_seq ?_
    refine awp_cond rfl (fun hc1 => ?_) (fun hc1 => ?_)
    ·
      have hltx : k < ms.length := by have := of_decide_eq_true hc1; simpa using this
      obtain ⟨x, hx⟩ := get_lt hltx
      have hol := vers_len at_ n (ms.take k) []
      rw [List.length_take, List.length_nil] at hol
      have e : ((ms.take (k + 1)).foldl (stepV at_ n) []) = stepV at_ n ((ms.take k).foldl (stepV at_ n) []) x := fold_take hx
      rw [stepV] at e
      refine awp_skip ?_
      refine x_then ?_
      refine awp_seq ?_
      refine awp_block ?_
      refine awp_seq ?_
      refine awp_region ?_
      refine r_index rfl rfl rfl TF.sl22 TF.sz30 (by omega) (get_map hx) rfl ?_
      refine r_load1 rfl TF.agg30 rfl ?_
      refine r_assign rfl rfl ?_
      refine awl_nil ?_
      refine x_then ?_
      refine awp_seq ?_
      refine awp_region ?_
      refine r_move rfl rfl ?_
      refine r_move rfl rfl ?_
      refine r_call0 hq rfl rfl (.cons (.ev rfl rfl) .nil) (ha x) rfl hea rfl (fun r hr => ?_)
      obtain rfl := hr
      rcases Bool.eq_false_or_eq_true (at_ x).2 with hb | hb
      ·
        rw [show lookO at_ x = some (at_ x).1 from by unfold lookO; rw [hb]; rfl] at e
        rw [hb]
        simp only at e
        obtain ⟨hfl0, hfd⟩ := hg x
        have hfl : (at_ x).1.length ≤ 1000000 := by omega
        refine r_move rfl rfl ?_
        refine r_extract rfl rfl rfl ?_
        refine r_extract rfl rfl rfl ?_
        refine r_assign rfl rfl ?_
        refine r_assign rfl rfl ?_
        refine awl_nil ?_
        refine x_then ?_
        refine awp_seq ?_
        refine awp_seq ?_
        refine awp_region ?_
        refine r_move rfl rfl ?_
        refine r_not rfl rfl ?_
        refine awl_nil ?_
        refine x_then ?_
        refine awp_condF rfl ?_
        refine awp_skip ?_
        refine x_then ?_
        refine awp_seq ?_
        refine awp_region ?_
        refine r_move rfl rfl ?_
        refine r_build (parts := [(0, .tmp 31)]) rfl TF.pl71 TF.zero71 rfl rfl rfl ?_
        refine r_alloc TF.zero71 rfl (fun b12 => ?_)
        refine r_store 0 rfl rfl rfl TF.sz71 rfl rfl rfl ?_
        refine awl_nil ?_
        refine x_then ?_
        refine awp_seq ?_
        refine awp_seq ?_
        refine awp_region ?_
        refine r_move rfl rfl ?_
        refine r_move rfl rfl ?_
        refine r_call0 hq rfl rfl (.cons (.ev rfl rfl) (.cons (.ev rfl rfl) .nil)) (ffind_ok (at_ x).1 n hfl (fun f hf => (hfd f hf).2)) rfl TF.en29 rfl (fun r hr => ?_)
        obtain rfl := hr
        rcases hf : (at_ x).1.find? (fun f => decide (f.name = n)) with _ | f
        ·
          rw [findR_none hf]
          have hv : verAt (at_ x).1 n x = ⟨x, false, []⟩ := by unfold verAt; rw [hf]
          refine r_move rfl rfl ?_
          refine r_extract rfl rfl rfl ?_
          refine r_extract rfl rfl rfl ?_
          refine r_alloc TF.zero67 rfl (fun b13 => ?_)
          first | (refine r_store 0 rfl rfl rfl TF.sz67 rfl rfl rfl ?_) | (refine r_store 1 rfl rfl rfl TF.sz67 rfl rfl rfl ?_)
          refine r_assign rfl rfl ?_
          refine awl_nil ?_
          refine x_then ?_
          refine awp_seq ?_
          refine awp_region ?_
          refine r_move rfl rfl ?_
          refine awl_nil ?_
          refine x_then ?_
          refine awp_condF rfl ?_
          refine awp_skip ?_
          refine x_then ?_
          refine awp_seq ?_
          rcases Bool.eq_false_or_eq_true (((((ms.take k).foldl (stepV at_ n) []).map Ver.cs).length : Int) == 0) with hg48 | hg48
          ·
            have hl0 : ((ms.take k).foldl (stepV at_ n) []) = [] := by have := eq_of_beq hg48; simp at this; exact List.eq_nil_of_length_eq_zero (by simpa using this)
            simp only [hl0, List.getLast?_nil] at e
            have em : ((ms.take (k + 1)).foldl (stepV at_ n) []).map Ver.cs = ((ms.take k).foldl (stepV at_ n) []).map Ver.cs ++ [Ver.cs ⟨x, false, []⟩] := by rw [e, hl0, hv]; rfl
            refine awp_drawS [45, 46, 47, 48, 49, 50, 51, 52, 53, 54, 55] [_, _, _, _, _, _, _, _, _, _, _] [] [] TF.mixed rfl rfl rfl ⟨⟨⟨⟨⟨⟨⟨⟨⟨⟨⟨trivial
              , ⟨_, rfl, fun sl hd hr ho => by
                  refine r_move (hr 7 _ rfl rfl rfl) rfl ?_
                  exact awl_nil ⟨rfl, post_put⟩⟩⟩
              , ⟨_, rfl, fun sl hd hr ho => by
                  first | (refine r_lenS (hd 0 _ rfl rfl rfl) rfl TF.sl64 rfl ?_) | (refine r_lenNil (hd 0 _ rfl rfl rfl) TF.sl64 rfl ?_) | (refine r_lenV (hd 0 _ rfl rfl rfl) TF.sl64 rfl ?_)
                  exact awl_nil ⟨rfl, post_put⟩⟩⟩
              , ⟨_, rfl, fun sl hd hr ho => by
                  refine r_cmp (hd 1 _ rfl rfl rfl) rfl rfl rfl ?_
                  exact awl_nil ⟨rfl, post_put⟩⟩⟩
              , ⟨_, rfl, fun sl hd hr ho => by
                  refine r_move (hd 2 _ rfl rfl rfl) rfl ?_
                  exact awl_nil ⟨rfl, post_put⟩⟩⟩
              , ⟨_, rfl, fun sl hd hr ho => by
                  refine g_skip rfl (hd 3 _ rfl rfl rfl) hg48 rfl ?_
                  exact awl_nil ⟨rfl, post_put⟩⟩⟩
              , ⟨_, rfl, fun sl hd hr ho => by
                  refine g_skip rfl (hd 3 _ rfl rfl rfl) hg48 rfl ?_
                  exact awl_nil ⟨rfl, post_put⟩⟩⟩
              , ⟨_, rfl, fun sl hd hr ho => by
                  refine g_skip rfl (hd 3 _ rfl rfl rfl) hg48 rfl ?_
                  exact awl_nil ⟨rfl, post_put⟩⟩⟩
              , ⟨_, rfl, fun sl hd hr ho => by
                  refine g_skip rfl (hd 3 _ rfl rfl rfl) hg48 rfl ?_
                  exact awl_nil ⟨rfl, post_put⟩⟩⟩
              , ⟨_, rfl, fun sl hd hr ho => by
                  refine g_skip rfl (hd 3 _ rfl rfl rfl) hg48 rfl ?_
                  exact awl_nil ⟨rfl, post_put⟩⟩⟩
              , ⟨_, rfl, fun sl hd hr ho => by
                  refine g_skip rfl (hd 3 _ rfl rfl rfl) hg48 rfl ?_
                  exact awl_nil ⟨rfl, post_put⟩⟩⟩
              , ⟨_, rfl, fun sl hd hr ho => by
                  refine g_skip rfl (hd 3 _ rfl rfl rfl) hg48 rfl ?_
                  exact awl_nil ⟨rfl, post_put⟩⟩⟩
              (by rfl) ?_
            refine g_skip rfl rfl hg48 rfl ?_
            refine g_skip rfl rfl hg48 rfl ?_
            refine r_pickT rfl hg48 rfl rfl ?_
            refine awl_nil ?_
            refine x_then ?_
            refine awp_condT rfl ?_
            refine awp_region ?_
            refine r_move rfl rfl ?_
            refine r_loadAb 1 rfl rfl TF.agg71 TF.sz71 rfl rfl ?_
            refine r_lit 61 (parts := [(0, .tmp 60)]) rfl TF.sl64 TF.sz71 TF.zraw71 rfl rfl rfl rfl rfl rfl rfl ?_
            refine r_append 7 rfl (by first | exact .own _ | exact .nil) rfl (by first | exact .sl _ | exact .own _ _ | exact .nil) TF.sl64 TF.sz71 (by decide) TF.by71 TF.zlen71 (by simp [chunks] <;> omega) (by simp [chunks] <;> omega) rfl ?_
            refine r_assign rfl rfl ?_
            refine awl_nil ?_
            refine x_block ?_
            refine x_then ?_
            refine awp_region ?_
            refine r_ari _ rfl rfl rfl (wrap_id (by first | omega | (simp; omega))) rfl ?_
            refine r_move rfl rfl ?_
            refine awl_nil ?_
            refine x_then ?_
            refine ⟨ms.length - (k + 1), ⟨65, [(1, .a (.fn fa ca)), (2, .a (strA n)), (7, .own 7 3 (((ms.take (k + 1)).foldl (stepV at_ n) []).map Ver.cs)), (17, .a (numsA ms)), (18, .a (.v (.int .i64 ((ms.map fun x => [AV.v (.int .u64 x)]).length)))), (19, .a (.v (.int .i64 (((k + 1) : Int)))))], []⟩, ⟨rfl, (Slots.cons rfl (by first | exact .refl _ | exact .nilOwn _ _ | exact .nilSl _ | exact .ownSl _ _ _  | exact SV.le.ownEq (by rw [em] <;> rfl) | exact SV.le.of_eq (by rw [em] <;> rfl)) (Slots.cons rfl (by first | exact .refl _ | exact .nilOwn _ _ | exact .nilSl _ | exact .ownSl _ _ _  | exact SV.le.ownEq (by rw [em] <;> rfl) | exact SV.le.of_eq (by rw [em] <;> rfl)) (Slots.cons rfl (by first | exact .refl _ | exact .nilOwn _ _ | exact .nilSl _ | exact .ownSl _ _ _  | exact SV.le.ownEq (by rw [em] <;> rfl) | exact SV.le.of_eq (by rw [em] <;> rfl)) (Slots.cons rfl (by first | exact .refl _ | exact .nilOwn _ _ | exact .nilSl _ | exact .ownSl _ _ _  | exact SV.le.ownEq (by rw [em] <;> rfl) | exact SV.le.of_eq (by rw [em] <;> rfl)) (Slots.cons rfl (by first | exact .refl _ | exact .nilOwn _ _ | exact .nilSl _ | exact .ownSl _ _ _  | exact SV.le.ownEq (by rw [em] <;> rfl) | exact SV.le.of_eq (by rw [em] <;> rfl)) (Slots.cons rfl (by first | exact .refl _ | exact .nilOwn _ _ | exact .nilSl _ | exact .ownSl _ _ _  | exact SV.le.ownEq (by rw [em] <;> rfl) | exact SV.le.of_eq (by rw [em] <;> rfl)) Slots.nil)))))), (by first | exact List.Sublist.refl _ | exact .cons_cons _ (.cons _ (.refl _)) | exact List.nil_sublist _ | exact .cons _ (.refl _) | exact .cons _ (.cons _ (.refl _)) | exact .cons _ (.cons _ (.cons _ (.refl _))) | exact .cons _ (.cons _ (.cons _ (.cons _ (.refl _)))) | exact .cons_cons _ (List.nil_sublist _))⟩, (by omega), ⟨k + 1, rfl, rfl, (by omega)⟩⟩
          ·
            have hl0 : 0 < ((ms.take k).foldl (stepV at_ n) []).length := by rcases Nat.eq_zero_or_pos ((ms.take k).foldl (stepV at_ n) []).length with h0 | h0; (rw [List.length_map, h0] at hg48; cases hg48); exact h0
            obtain ⟨w, hw⟩ : ∃ w, ((ms.take k).foldl (stepV at_ n) [])[((ms.take k).foldl (stepV at_ n) []).length - 1]? = some w := get_lt (by omega)
            have hlast : ((ms.take k).foldl (stepV at_ n) []).getLast? = some w := by rw [List.getLast?_eq_getElem?]; exact hw
            simp only [hlast] at e
            refine awp_drawS [45, 46, 47, 48, 49, 50, 51, 52, 53, 54, 55] [_, _, _, _, _, _, _, _, _, _, _] [] [] TF.mixed rfl rfl rfl ⟨⟨⟨⟨⟨⟨⟨⟨⟨⟨⟨trivial
              , ⟨_, rfl, fun sl hd hr ho => by
                  refine r_move (hr 7 _ rfl rfl rfl) rfl ?_
                  exact awl_nil ⟨rfl, post_put⟩⟩⟩
              , ⟨_, rfl, fun sl hd hr ho => by
                  first | (refine r_lenS (hd 0 _ rfl rfl rfl) rfl TF.sl64 rfl ?_) | (refine r_lenNil (hd 0 _ rfl rfl rfl) TF.sl64 rfl ?_) | (refine r_lenV (hd 0 _ rfl rfl rfl) TF.sl64 rfl ?_)
                  exact awl_nil ⟨rfl, post_put⟩⟩⟩
              , ⟨_, rfl, fun sl hd hr ho => by
                  refine r_cmp (hd 1 _ rfl rfl rfl) rfl rfl rfl ?_
                  exact awl_nil ⟨rfl, post_put⟩⟩⟩
              , ⟨_, rfl, fun sl hd hr ho => by
                  refine r_move (hd 2 _ rfl rfl rfl) rfl ?_
                  exact awl_nil ⟨rfl, post_put⟩⟩⟩
              , ⟨_, rfl, fun sl hd hr ho => by
                  refine g_run rfl (hd 3 _ rfl rfl rfl) hg48 ?_
                  refine r_move (hr 7 _ rfl rfl rfl) rfl ?_
                  exact awl_nil ⟨rfl, post_put⟩⟩⟩
              , ⟨_, rfl, fun sl hd hr ho => by
                  refine g_run rfl (hd 3 _ rfl rfl rfl) hg48 ?_
                  refine r_move (hr 7 _ rfl rfl rfl) rfl ?_
                  exact awl_nil ⟨rfl, post_put⟩⟩⟩
              , ⟨_, rfl, fun sl hd hr ho => by
                  refine g_run rfl (hd 3 _ rfl rfl rfl) hg48 ?_
                  first | (refine r_lenS (hd 5 _ rfl rfl rfl) rfl TF.sl64 rfl ?_) | (refine r_lenNil (hd 5 _ rfl rfl rfl) TF.sl64 rfl ?_) | (refine r_lenV (hd 5 _ rfl rfl rfl) TF.sl64 rfl ?_)
                  exact awl_nil ⟨rfl, post_put⟩⟩⟩
              , ⟨_, rfl, fun sl hd hr ho => by
                  refine g_run rfl (hd 3 _ rfl rfl rfl) hg48 ?_
                  refine r_ari _ (hd 6 _ rfl rfl rfl) rfl rfl (wrap_id (by rw [List.length_map]; omega)) rfl ?_
                  exact awl_nil ⟨rfl, post_put⟩⟩⟩
              , ⟨_, rfl, fun sl hd hr ho => by
                  refine g_run rfl (hd 3 _ rfl rfl rfl) hg48 ?_
                  refine r_index (hd 4 _ rfl rfl rfl) rfl (hd 7 _ rfl rfl rfl) TF.sl64 TF.sz71 (by rw [List.length_map]; omega) (by rw [List.length_map, show ((((ms.take k).foldl (stepV at_ n) []).length : Int) - 1).toNat = ((ms.take k).foldl (stepV at_ n) []).length - 1 by omega]; exact get_map hw) rfl ?_
                  exact awl_nil ⟨rfl, post_put⟩⟩⟩
              , ⟨_, rfl, fun sl hd hr ho => by
                  refine g_run rfl (hd 3 _ rfl rfl rfl) hg48 ?_
                  first | (refine r_loadA (hd 8 _ rfl rfl rfl) TF.agg71 TF.sz71 rfl rfl ?_) | (refine r_loadAb 0 (hd 8 _ rfl rfl rfl) rfl TF.agg71 TF.sz71 rfl rfl ?_) | (refine r_loadAb 1 (hd 8 _ rfl rfl rfl) rfl TF.agg71 TF.sz71 rfl rfl ?_)
                  exact awl_nil ⟨rfl, post_put⟩⟩⟩
              , ⟨_, rfl, fun sl hd hr ho => by
                  refine g_run rfl (hd 3 _ rfl rfl rfl) hg48 ?_
                  refine r_loadAb 1 (hr 12 _ rfl rfl rfl) rfl TF.agg71 TF.sz71 rfl rfl ?_
                  exact awl_nil ⟨rfl, post_put⟩⟩⟩
              (by rfl) ?_
            refine g_run rfl rfl hg48 ?_
            refine r_call0 hq rfl rfl (.cons (.ev rfl rfl) (.cons (.ev rfl rfl) .nil)) (valike_ok w ⟨x, false, []⟩) rfl TF.en51 rfl (fun r hr => ?_)
            obtain rfl := hr
            refine g_run rfl rfl hg48 ?_
            refine r_not rfl rfl ?_
            refine r_pickF rfl hg48 rfl rfl ?_
            refine awl_nil ?_
            refine x_then ?_
            refine awp_cond rfl (fun hc4 => ?_) (fun hc4 => ?_)
            ·
              have ha : w.alike ⟨x, false, []⟩ = false := by cases h : w.alike ⟨x, false, []⟩ with | false => rfl | true => rw [h] at hc4; cases hc4
              rw [hv, ha, cond_false, ← hv] at e
              have em : ((ms.take (k + 1)).foldl (stepV at_ n) []).map Ver.cs = ((ms.take k).foldl (stepV at_ n) []).map Ver.cs ++ [Ver.cs ⟨x, false, []⟩] := by rw [e, hv, List.map_append]; rfl
              refine awp_region ?_
              refine r_move rfl rfl ?_
              refine r_loadAb 1 rfl rfl TF.agg71 TF.sz71 rfl rfl ?_
              refine r_lit 61 (parts := [(0, .tmp 60)]) rfl TF.sl64 TF.sz71 TF.zraw71 rfl rfl rfl rfl rfl rfl rfl ?_
              refine r_append 7 rfl (by first | exact .own _ | exact .nil) rfl (by first | exact .sl _ | exact .own _ _ | exact .nil) TF.sl64 TF.sz71 (by decide) TF.by71 TF.zlen71 (by simp [chunks] <;> omega) (by simp [chunks] <;> omega) rfl ?_
              refine r_assign rfl rfl ?_
              refine awl_nil ?_
              refine x_block ?_
              refine x_then ?_
              refine awp_region ?_
              refine r_ari _ rfl rfl rfl (wrap_id (by first | omega | (simp; omega))) rfl ?_
              refine r_move rfl rfl ?_
              refine awl_nil ?_
              refine x_then ?_
              refine ⟨ms.length - (k + 1), ⟨65, [(1, .a (.fn fa ca)), (2, .a (strA n)), (7, .own 7 3 (((ms.take (k + 1)).foldl (stepV at_ n) []).map Ver.cs)), (17, .a (numsA ms)), (18, .a (.v (.int .i64 ((ms.map fun x => [AV.v (.int .u64 x)]).length)))), (19, .a (.v (.int .i64 (((k + 1) : Int)))))], []⟩, ⟨rfl, (Slots.cons rfl (by first | exact .refl _ | exact .nilOwn _ _ | exact .nilSl _ | exact .ownSl _ _ _  | exact SV.le.ownEq (by rw [em] <;> rfl) | exact SV.le.of_eq (by rw [em] <;> rfl)) (Slots.cons rfl (by first | exact .refl _ | exact .nilOwn _ _ | exact .nilSl _ | exact .ownSl _ _ _  | exact SV.le.ownEq (by rw [em] <;> rfl) | exact SV.le.of_eq (by rw [em] <;> rfl)) (Slots.cons rfl (by first | exact .refl _ | exact .nilOwn _ _ | exact .nilSl _ | exact .ownSl _ _ _  | exact SV.le.ownEq (by rw [em] <;> rfl) | exact SV.le.of_eq (by rw [em] <;> rfl)) (Slots.cons rfl (by first | exact .refl _ | exact .nilOwn _ _ | exact .nilSl _ | exact .ownSl _ _ _  | exact SV.le.ownEq (by rw [em] <;> rfl) | exact SV.le.of_eq (by rw [em] <;> rfl)) (Slots.cons rfl (by first | exact .refl _ | exact .nilOwn _ _ | exact .nilSl _ | exact .ownSl _ _ _  | exact SV.le.ownEq (by rw [em] <;> rfl) | exact SV.le.of_eq (by rw [em] <;> rfl)) (Slots.cons rfl (by first | exact .refl _ | exact .nilOwn _ _ | exact .nilSl _ | exact .ownSl _ _ _  | exact SV.le.ownEq (by rw [em] <;> rfl) | exact SV.le.of_eq (by rw [em] <;> rfl)) Slots.nil)))))), (by first | exact List.Sublist.refl _ | exact .cons_cons _ (.cons _ (.refl _)) | exact List.nil_sublist _ | exact .cons _ (.refl _) | exact .cons _ (.cons _ (.refl _)) | exact .cons _ (.cons _ (.cons _ (.refl _))) | exact .cons _ (.cons _ (.cons _ (.cons _ (.refl _)))) | exact .cons_cons _ (List.nil_sublist _))⟩, (by omega), ⟨k + 1, rfl, rfl, (by omega)⟩⟩
            ·
              have ha : w.alike ⟨x, false, []⟩ = true := by cases h : w.alike ⟨x, false, []⟩ with | true => rfl | false => rw [h] at hc4; cases hc4
              rw [hv, ha, cond_true] at e
              have em : ((ms.take (k + 1)).foldl (stepV at_ n) []).map Ver.cs = ((ms.take k).foldl (stepV at_ n) []).map Ver.cs := by rw [e]
              refine awp_skip ?_
              refine x_block ?_
              refine x_then ?_
              refine awp_region ?_
              refine r_ari _ rfl rfl rfl (wrap_id (by first | omega | (simp; omega))) rfl ?_
              refine r_move rfl rfl ?_
              refine awl_nil ?_
              refine x_then ?_
              refine ⟨ms.length - (k + 1), ⟨65, [(1, .a (.fn fa ca)), (2, .a (strA n)), (7, .own 7 3 (((ms.take (k + 1)).foldl (stepV at_ n) []).map Ver.cs)), (17, .a (numsA ms)), (18, .a (.v (.int .i64 ((ms.map fun x => [AV.v (.int .u64 x)]).length)))), (19, .a (.v (.int .i64 (((k + 1) : Int)))))], []⟩, ⟨rfl, (Slots.cons rfl (by first | exact .refl _ | exact .nilOwn _ _ | exact .nilSl _ | exact .ownSl _ _ _  | exact SV.le.ownEq (by rw [em] <;> rfl) | exact SV.le.of_eq (by rw [em] <;> rfl)) (Slots.cons rfl (by first | exact .refl _ | exact .nilOwn _ _ | exact .nilSl _ | exact .ownSl _ _ _  | exact SV.le.ownEq (by rw [em] <;> rfl) | exact SV.le.of_eq (by rw [em] <;> rfl)) (Slots.cons rfl (by first | exact .refl _ | exact .nilOwn _ _ | exact .nilSl _ | exact .ownSl _ _ _  | exact SV.le.ownEq (by rw [em] <;> rfl) | exact SV.le.of_eq (by rw [em] <;> rfl)) (Slots.cons rfl (by first | exact .refl _ | exact .nilOwn _ _ | exact .nilSl _ | exact .ownSl _ _ _  | exact SV.le.ownEq (by rw [em] <;> rfl) | exact SV.le.of_eq (by rw [em] <;> rfl)) (Slots.cons rfl (by first | exact .refl _ | exact .nilOwn _ _ | exact .nilSl _ | exact .ownSl _ _ _  | exact SV.le.ownEq (by rw [em] <;> rfl) | exact SV.le.of_eq (by rw [em] <;> rfl)) (Slots.cons rfl (by first | exact .refl _ | exact .nilOwn _ _ | exact .nilSl _ | exact .ownSl _ _ _  | exact SV.le.ownEq (by rw [em] <;> rfl) | exact SV.le.of_eq (by rw [em] <;> rfl)) Slots.nil)))))), (by first | exact List.Sublist.refl _ | exact .cons_cons _ (.cons _ (.refl _)) | exact List.nil_sublist _ | exact .cons _ (.refl _) | exact .cons _ (.cons _ (.refl _)) | exact .cons _ (.cons _ (.cons _ (.refl _))) | exact .cons _ (.cons _ (.cons _ (.cons _ (.refl _)))) | exact .cons_cons _ (List.nil_sublist _))⟩, (by omega), ⟨k + 1, rfl, rfl, (by omega)⟩⟩
        ·
          have hfd1 := (hfd f (List.mem_of_find?_eq_some hf)).2
          rw [findR_some hf]
          have hv : verAt (at_ x).1 n x = ⟨x, true, f.data⟩ := by unfold verAt; rw [hf]
          refine r_move rfl rfl ?_
          refine r_extract rfl rfl rfl ?_
          refine r_extract rfl rfl rfl ?_
          refine r_alloc TF.zero67 rfl (fun b13 => ?_)
          first | (refine r_store 0 rfl rfl rfl TF.sz67 rfl rfl rfl ?_) | (refine r_store 1 rfl rfl rfl TF.sz67 rfl rfl rfl ?_)
          refine r_assign rfl rfl ?_
          refine awl_nil ?_
          refine x_then ?_
          refine awp_seq ?_
          refine awp_region ?_
          refine r_move rfl rfl ?_
          refine awl_nil ?_
          refine x_then ?_
          refine awp_condT rfl ?_
          refine awp_region ?_
          first | (refine r_fieldb rfl TF.f67_1 TF.sz42 rfl ?_) | (refine r_fieldcp rfl TF.f67_1 TF.sz42 rfl ?_)
          refine r_load1b 0 rfl rfl rfl TF.agg42 rfl ?_
          refine r_call0 hq rfl rfl (.cons (.ev rfl rfl) .nil) (clone_ok f.data hfd1) rfl TF.en39 rfl (fun r hr => ?_)
          obtain rfl := hr
          first | (refine r_fieldb rfl TF.f71_1 TF.sz4 rfl ?_) | (refine r_fieldcp rfl TF.f71_1 TF.sz4 rfl ?_)
          first | (refine r_store 0 rfl rfl rfl TF.sz4 rfl rfl rfl ?_) | (refine r_store 1 rfl rfl rfl TF.sz4 rfl rfl rfl ?_)
          first | (refine r_fieldb rfl TF.f71_2 TF.sz42 rfl ?_) | (refine r_fieldcp rfl TF.f71_2 TF.sz42 rfl ?_)
          first | (refine r_store 0 rfl rfl rfl TF.sz42 rfl rfl rfl ?_) | (refine r_store 1 rfl rfl rfl TF.sz42 rfl rfl rfl ?_)
          refine awl_nil ?_
          refine x_then ?_
          refine awp_seq ?_
          rcases Bool.eq_false_or_eq_true (((((ms.take k).foldl (stepV at_ n) []).map Ver.cs).length : Int) == 0) with hg48 | hg48
          ·
            have hl0 : ((ms.take k).foldl (stepV at_ n) []) = [] := by have := eq_of_beq hg48; simp at this; exact List.eq_nil_of_length_eq_zero (by simpa using this)
            simp only [hl0, List.getLast?_nil] at e
            have em : ((ms.take (k + 1)).foldl (stepV at_ n) []).map Ver.cs = ((ms.take k).foldl (stepV at_ n) []).map Ver.cs ++ [Ver.cs ⟨x, true, f.data⟩] := by rw [e, hl0, hv]; rfl
            refine awp_drawS [45, 46, 47, 48, 49, 50, 51, 52, 53, 54, 55] [_, _, _, _, _, _, _, _, _, _, _] [] [] TF.mixed rfl rfl rfl ⟨⟨⟨⟨⟨⟨⟨⟨⟨⟨⟨trivial
              , ⟨_, rfl, fun sl hd hr ho => by
                  refine r_move (hr 7 _ rfl rfl rfl) rfl ?_
                  exact awl_nil ⟨rfl, post_put⟩⟩⟩
              , ⟨_, rfl, fun sl hd hr ho => by
                  first | (refine r_lenS (hd 0 _ rfl rfl rfl) rfl TF.sl64 rfl ?_) | (refine r_lenNil (hd 0 _ rfl rfl rfl) TF.sl64 rfl ?_) | (refine r_lenV (hd 0 _ rfl rfl rfl) TF.sl64 rfl ?_)
                  exact awl_nil ⟨rfl, post_put⟩⟩⟩
              , ⟨_, rfl, fun sl hd hr ho => by
                  refine r_cmp (hd 1 _ rfl rfl rfl) rfl rfl rfl ?_
                  exact awl_nil ⟨rfl, post_put⟩⟩⟩
              , ⟨_, rfl, fun sl hd hr ho => by
                  refine r_move (hd 2 _ rfl rfl rfl) rfl ?_
                  exact awl_nil ⟨rfl, post_put⟩⟩⟩
              , ⟨_, rfl, fun sl hd hr ho => by
                  refine g_skip rfl (hd 3 _ rfl rfl rfl) hg48 rfl ?_
                  exact awl_nil ⟨rfl, post_put⟩⟩⟩
              , ⟨_, rfl, fun sl hd hr ho => by
                  refine g_skip rfl (hd 3 _ rfl rfl rfl) hg48 rfl ?_
                  exact awl_nil ⟨rfl, post_put⟩⟩⟩
              , ⟨_, rfl, fun sl hd hr ho => by
                  refine g_skip rfl (hd 3 _ rfl rfl rfl) hg48 rfl ?_
                  exact awl_nil ⟨rfl, post_put⟩⟩⟩
              , ⟨_, rfl, fun sl hd hr ho => by
                  refine g_skip rfl (hd 3 _ rfl rfl rfl) hg48 rfl ?_
                  exact awl_nil ⟨rfl, post_put⟩⟩⟩
              , ⟨_, rfl, fun sl hd hr ho => by
                  refine g_skip rfl (hd 3 _ rfl rfl rfl) hg48 rfl ?_
                  exact awl_nil ⟨rfl, post_put⟩⟩⟩
              , ⟨_, rfl, fun sl hd hr ho => by
                  refine g_skip rfl (hd 3 _ rfl rfl rfl) hg48 rfl ?_
                  exact awl_nil ⟨rfl, post_put⟩⟩⟩
              , ⟨_, rfl, fun sl hd hr ho => by
                  refine g_skip rfl (hd 3 _ rfl rfl rfl) hg48 rfl ?_
                  exact awl_nil ⟨rfl, post_put⟩⟩⟩
              (by rfl) ?_
            refine g_skip rfl rfl hg48 rfl ?_
            refine g_skip rfl rfl hg48 rfl ?_
            refine r_pickT rfl hg48 rfl rfl ?_
            refine awl_nil ?_
            refine x_then ?_
            refine awp_condT rfl ?_
            refine awp_region ?_
            refine r_move rfl rfl ?_
            refine r_loadAb 1 rfl rfl TF.agg71 TF.sz71 rfl rfl ?_
            refine r_lit 61 (parts := [(0, .tmp 60)]) rfl TF.sl64 TF.sz71 TF.zraw71 rfl rfl rfl rfl rfl rfl rfl ?_
            refine r_append 7 rfl (by first | exact .own _ | exact .nil) rfl (by first | exact .sl _ | exact .own _ _ | exact .nil) TF.sl64 TF.sz71 (by decide) TF.by71 TF.zlen71 (by simp [chunks] <;> omega) (by simp [chunks] <;> omega) rfl ?_
            refine r_assign rfl rfl ?_
            refine awl_nil ?_
            refine x_block ?_
            refine x_then ?_
            refine awp_region ?_
            refine r_ari _ rfl rfl rfl (wrap_id (by first | omega | (simp; omega))) rfl ?_
            refine r_move rfl rfl ?_
            refine awl_nil ?_
            refine x_then ?_
            refine ⟨ms.length - (k + 1), ⟨65, [(1, .a (.fn fa ca)), (2, .a (strA n)), (7, .own 7 3 (((ms.take (k + 1)).foldl (stepV at_ n) []).map Ver.cs)), (17, .a (numsA ms)), (18, .a (.v (.int .i64 ((ms.map fun x => [AV.v (.int .u64 x)]).length)))), (19, .a (.v (.int .i64 (((k + 1) : Int)))))], []⟩, ⟨rfl, (Slots.cons rfl (by first | exact .refl _ | exact .nilOwn _ _ | exact .nilSl _ | exact .ownSl _ _ _  | exact SV.le.ownEq (by rw [em] <;> rfl) | exact SV.le.of_eq (by rw [em] <;> rfl)) (Slots.cons rfl (by first | exact .refl _ | exact .nilOwn _ _ | exact .nilSl _ | exact .ownSl _ _ _  | exact SV.le.ownEq (by rw [em] <;> rfl) | exact SV.le.of_eq (by rw [em] <;> rfl)) (Slots.cons rfl (by first | exact .refl _ | exact .nilOwn _ _ | exact .nilSl _ | exact .ownSl _ _ _  | exact SV.le.ownEq (by rw [em] <;> rfl) | exact SV.le.of_eq (by rw [em] <;> rfl)) (Slots.cons rfl (by first | exact .refl _ | exact .nilOwn _ _ | exact .nilSl _ | exact .ownSl _ _ _  | exact SV.le.ownEq (by rw [em] <;> rfl) | exact SV.le.of_eq (by rw [em] <;> rfl)) (Slots.cons rfl (by first | exact .refl _ | exact .nilOwn _ _ | exact .nilSl _ | exact .ownSl _ _ _  | exact SV.le.ownEq (by rw [em] <;> rfl) | exact SV.le.of_eq (by rw [em] <;> rfl)) (Slots.cons rfl (by first | exact .refl _ | exact .nilOwn _ _ | exact .nilSl _ | exact .ownSl _ _ _  | exact SV.le.ownEq (by rw [em] <;> rfl) | exact SV.le.of_eq (by rw [em] <;> rfl)) Slots.nil)))))), (by first | exact List.Sublist.refl _ | exact .cons_cons _ (.cons _ (.refl _)) | exact List.nil_sublist _ | exact .cons _ (.refl _) | exact .cons _ (.cons _ (.refl _)) | exact .cons _ (.cons _ (.cons _ (.refl _))) | exact .cons _ (.cons _ (.cons _ (.cons _ (.refl _)))) | exact .cons_cons _ (List.nil_sublist _))⟩, (by omega), ⟨k + 1, rfl, rfl, (by omega)⟩⟩
          ·
            have hl0 : 0 < ((ms.take k).foldl (stepV at_ n) []).length := by rcases Nat.eq_zero_or_pos ((ms.take k).foldl (stepV at_ n) []).length with h0 | h0; (rw [List.length_map, h0] at hg48; cases hg48); exact h0
            obtain ⟨w, hw⟩ : ∃ w, ((ms.take k).foldl (stepV at_ n) [])[((ms.take k).foldl (stepV at_ n) []).length - 1]? = some w := get_lt (by omega)
            have hlast : ((ms.take k).foldl (stepV at_ n) []).getLast? = some w := by rw [List.getLast?_eq_getElem?]; exact hw
            simp only [hlast] at e
            refine awp_drawS [45, 46, 47, 48, 49, 50, 51, 52, 53, 54, 55] [_, _, _, _, _, _, _, _, _, _, _] [] [] TF.mixed rfl rfl rfl ⟨⟨⟨⟨⟨⟨⟨⟨⟨⟨⟨trivial
              , ⟨_, rfl, fun sl hd hr ho => by
                  refine r_move (hr 7 _ rfl rfl rfl) rfl ?_
                  exact awl_nil ⟨rfl, post_put⟩⟩⟩
              , ⟨_, rfl, fun sl hd hr ho => by
                  first | (refine r_lenS (hd 0 _ rfl rfl rfl) rfl TF.sl64 rfl ?_) | (refine r_lenNil (hd 0 _ rfl rfl rfl) TF.sl64 rfl ?_) | (refine r_lenV (hd 0 _ rfl rfl rfl) TF.sl64 rfl ?_)
                  exact awl_nil ⟨rfl, post_put⟩⟩⟩
              , ⟨_, rfl, fun sl hd hr ho => by
                  refine r_cmp (hd 1 _ rfl rfl rfl) rfl rfl rfl ?_
                  exact awl_nil ⟨rfl, post_put⟩⟩⟩
              , ⟨_, rfl, fun sl hd hr ho => by
                  refine r_move (hd 2 _ rfl rfl rfl) rfl ?_
                  exact awl_nil ⟨rfl, post_put⟩⟩⟩
              , ⟨_, rfl, fun sl hd hr ho => by
                  refine g_run rfl (hd 3 _ rfl rfl rfl) hg48 ?_
                  refine r_move (hr 7 _ rfl rfl rfl) rfl ?_
                  exact awl_nil ⟨rfl, post_put⟩⟩⟩
              , ⟨_, rfl, fun sl hd hr ho => by
                  refine g_run rfl (hd 3 _ rfl rfl rfl) hg48 ?_
                  refine r_move (hr 7 _ rfl rfl rfl) rfl ?_
                  exact awl_nil ⟨rfl, post_put⟩⟩⟩
              , ⟨_, rfl, fun sl hd hr ho => by
                  refine g_run rfl (hd 3 _ rfl rfl rfl) hg48 ?_
                  first | (refine r_lenS (hd 5 _ rfl rfl rfl) rfl TF.sl64 rfl ?_) | (refine r_lenNil (hd 5 _ rfl rfl rfl) TF.sl64 rfl ?_) | (refine r_lenV (hd 5 _ rfl rfl rfl) TF.sl64 rfl ?_)
                  exact awl_nil ⟨rfl, post_put⟩⟩⟩
              , ⟨_, rfl, fun sl hd hr ho => by
                  refine g_run rfl (hd 3 _ rfl rfl rfl) hg48 ?_
                  refine r_ari _ (hd 6 _ rfl rfl rfl) rfl rfl (wrap_id (by rw [List.length_map]; omega)) rfl ?_
                  exact awl_nil ⟨rfl, post_put⟩⟩⟩
              , ⟨_, rfl, fun sl hd hr ho => by
                  refine g_run rfl (hd 3 _ rfl rfl rfl) hg48 ?_
                  refine r_index (hd 4 _ rfl rfl rfl) rfl (hd 7 _ rfl rfl rfl) TF.sl64 TF.sz71 (by rw [List.length_map]; omega) (by rw [List.length_map, show ((((ms.take k).foldl (stepV at_ n) []).length : Int) - 1).toNat = ((ms.take k).foldl (stepV at_ n) []).length - 1 by omega]; exact get_map hw) rfl ?_
                  exact awl_nil ⟨rfl, post_put⟩⟩⟩
              , ⟨_, rfl, fun sl hd hr ho => by
                  refine g_run rfl (hd 3 _ rfl rfl rfl) hg48 ?_
                  first | (refine r_loadA (hd 8 _ rfl rfl rfl) TF.agg71 TF.sz71 rfl rfl ?_) | (refine r_loadAb 0 (hd 8 _ rfl rfl rfl) rfl TF.agg71 TF.sz71 rfl rfl ?_) | (refine r_loadAb 1 (hd 8 _ rfl rfl rfl) rfl TF.agg71 TF.sz71 rfl rfl ?_)
                  exact awl_nil ⟨rfl, post_put⟩⟩⟩
              , ⟨_, rfl, fun sl hd hr ho => by
                  refine g_run rfl (hd 3 _ rfl rfl rfl) hg48 ?_
                  refine r_loadAb 1 (hr 12 _ rfl rfl rfl) rfl TF.agg71 TF.sz71 rfl rfl ?_
                  exact awl_nil ⟨rfl, post_put⟩⟩⟩
              (by rfl) ?_
            refine g_run rfl rfl hg48 ?_
            refine r_call0 hq rfl rfl (.cons (.ev rfl rfl) (.cons (.ev rfl rfl) .nil)) (valike_ok w ⟨x, true, f.data⟩) rfl TF.en51 rfl (fun r hr => ?_)
            obtain rfl := hr
            refine g_run rfl rfl hg48 ?_
            refine r_not rfl rfl ?_
            refine r_pickF rfl hg48 rfl rfl ?_
            refine awl_nil ?_
            refine x_then ?_
            refine awp_cond rfl (fun hc4 => ?_) (fun hc4 => ?_)
            ·
              have ha : w.alike ⟨x, true, f.data⟩ = false := by cases h : w.alike ⟨x, true, f.data⟩ with | false => rfl | true => rw [h] at hc4; cases hc4
              rw [hv, ha, cond_false, ← hv] at e
              have em : ((ms.take (k + 1)).foldl (stepV at_ n) []).map Ver.cs = ((ms.take k).foldl (stepV at_ n) []).map Ver.cs ++ [Ver.cs ⟨x, true, f.data⟩] := by rw [e, hv, List.map_append]; rfl
              refine awp_region ?_
              refine r_move rfl rfl ?_
              refine r_loadAb 1 rfl rfl TF.agg71 TF.sz71 rfl rfl ?_
              refine r_lit 61 (parts := [(0, .tmp 60)]) rfl TF.sl64 TF.sz71 TF.zraw71 rfl rfl rfl rfl rfl rfl rfl ?_
              refine r_append 7 rfl (by first | exact .own _ | exact .nil) rfl (by first | exact .sl _ | exact .own _ _ | exact .nil) TF.sl64 TF.sz71 (by decide) TF.by71 TF.zlen71 (by simp [chunks] <;> omega) (by simp [chunks] <;> omega) rfl ?_
              refine r_assign rfl rfl ?_
              refine awl_nil ?_
              refine x_block ?_
              refine x_then ?_
              refine awp_region ?_
              refine r_ari _ rfl rfl rfl (wrap_id (by first | omega | (simp; omega))) rfl ?_
              refine r_move rfl rfl ?_
              refine awl_nil ?_
              refine x_then ?_
              refine ⟨ms.length - (k + 1), ⟨65, [(1, .a (.fn fa ca)), (2, .a (strA n)), (7, .own 7 3 (((ms.take (k + 1)).foldl (stepV at_ n) []).map Ver.cs)), (17, .a (numsA ms)), (18, .a (.v (.int .i64 ((ms.map fun x => [AV.v (.int .u64 x)]).length)))), (19, .a (.v (.int .i64 (((k + 1) : Int)))))], []⟩, ⟨rfl, (Slots.cons rfl (by first | exact .refl _ | exact .nilOwn _ _ | exact .nilSl _ | exact .ownSl _ _ _  | exact SV.le.ownEq (by rw [em] <;> rfl) | exact SV.le.of_eq (by rw [em] <;> rfl)) (Slots.cons rfl (by first | exact .refl _ | exact .nilOwn _ _ | exact .nilSl _ | exact .ownSl _ _ _  | exact SV.le.ownEq (by rw [em] <;> rfl) | exact SV.le.of_eq (by rw [em] <;> rfl)) (Slots.cons rfl (by first | exact .refl _ | exact .nilOwn _ _ | exact .nilSl _ | exact .ownSl _ _ _  | exact SV.le.ownEq (by rw [em] <;> rfl) | exact SV.le.of_eq (by rw [em] <;> rfl)) (Slots.cons rfl (by first | exact .refl _ | exact .nilOwn _ _ | exact .nilSl _ | exact .ownSl _ _ _  | exact SV.le.ownEq (by rw [em] <;> rfl) | exact SV.le.of_eq (by rw [em] <;> rfl)) (Slots.cons rfl (by first | exact .refl _ | exact .nilOwn _ _ | exact .nilSl _ | exact .ownSl _ _ _  | exact SV.le.ownEq (by rw [em] <;> rfl) | exact SV.le.of_eq (by rw [em] <;> rfl)) (Slots.cons rfl (by first | exact .refl _ | exact .nilOwn _ _ | exact .nilSl _ | exact .ownSl _ _ _  | exact SV.le.ownEq (by rw [em] <;> rfl) | exact SV.le.of_eq (by rw [em] <;> rfl)) Slots.nil)))))), (by first | exact List.Sublist.refl _ | exact .cons_cons _ (.cons _ (.refl _)) | exact List.nil_sublist _ | exact .cons _ (.refl _) | exact .cons _ (.cons _ (.refl _)) | exact .cons _ (.cons _ (.cons _ (.refl _))) | exact .cons _ (.cons _ (.cons _ (.cons _ (.refl _)))) | exact .cons_cons _ (List.nil_sublist _))⟩, (by omega), ⟨k + 1, rfl, rfl, (by omega)⟩⟩
            ·
              have ha : w.alike ⟨x, true, f.data⟩ = true := by cases h : w.alike ⟨x, true, f.data⟩ with | true => rfl | false => rw [h] at hc4; cases hc4
              rw [hv, ha, cond_true] at e
              have em : ((ms.take (k + 1)).foldl (stepV at_ n) []).map Ver.cs = ((ms.take k).foldl (stepV at_ n) []).map Ver.cs := by rw [e]
              refine awp_skip ?_
              refine x_block ?_
              refine x_then ?_
              refine awp_region ?_
              refine r_ari _ rfl rfl rfl (wrap_id (by first | omega | (simp; omega))) rfl ?_
              refine r_move rfl rfl ?_
              refine awl_nil ?_
              refine x_then ?_
              refine ⟨ms.length - (k + 1), ⟨65, [(1, .a (.fn fa ca)), (2, .a (strA n)), (7, .own 7 3 (((ms.take (k + 1)).foldl (stepV at_ n) []).map Ver.cs)), (17, .a (numsA ms)), (18, .a (.v (.int .i64 ((ms.map fun x => [AV.v (.int .u64 x)]).length)))), (19, .a (.v (.int .i64 (((k + 1) : Int)))))], []⟩, ⟨rfl, (Slots.cons rfl (by first | exact .refl _ | exact .nilOwn _ _ | exact .nilSl _ | exact .ownSl _ _ _  | exact SV.le.ownEq (by rw [em] <;> rfl) | exact SV.le.of_eq (by rw [em] <;> rfl)) (Slots.cons rfl (by first | exact .refl _ | exact .nilOwn _ _ | exact .nilSl _ | exact .ownSl _ _ _  | exact SV.le.ownEq (by rw [em] <;> rfl) | exact SV.le.of_eq (by rw [em] <;> rfl)) (Slots.cons rfl (by first | exact .refl _ | exact .nilOwn _ _ | exact .nilSl _ | exact .ownSl _ _ _  | exact SV.le.ownEq (by rw [em] <;> rfl) | exact SV.le.of_eq (by rw [em] <;> rfl)) (Slots.cons rfl (by first | exact .refl _ | exact .nilOwn _ _ | exact .nilSl _ | exact .ownSl _ _ _  | exact SV.le.ownEq (by rw [em] <;> rfl) | exact SV.le.of_eq (by rw [em] <;> rfl)) (Slots.cons rfl (by first | exact .refl _ | exact .nilOwn _ _ | exact .nilSl _ | exact .ownSl _ _ _  | exact SV.le.ownEq (by rw [em] <;> rfl) | exact SV.le.of_eq (by rw [em] <;> rfl)) (Slots.cons rfl (by first | exact .refl _ | exact .nilOwn _ _ | exact .nilSl _ | exact .ownSl _ _ _  | exact SV.le.ownEq (by rw [em] <;> rfl) | exact SV.le.of_eq (by rw [em] <;> rfl)) Slots.nil)))))), (by first | exact List.Sublist.refl _ | exact .cons_cons _ (.cons _ (.refl _)) | exact List.nil_sublist _ | exact .cons _ (.refl _) | exact .cons _ (.cons _ (.refl _)) | exact .cons _ (.cons _ (.cons _ (.refl _))) | exact .cons _ (.cons _ (.cons _ (.cons _ (.refl _)))) | exact .cons_cons _ (List.nil_sublist _))⟩, (by omega), ⟨k + 1, rfl, rfl, (by omega)⟩⟩
      ·
        rw [show lookO at_ x = none from by unfold lookO; rw [hb]; rfl] at e
        rw [hb]
        have em : ((ms.take (k + 1)).foldl (stepV at_ n) []).map Ver.cs = ((ms.take k).foldl (stepV at_ n) []).map Ver.cs := by rw [e]
        refine r_move rfl rfl ?_
        refine r_extract rfl rfl rfl ?_
        refine r_extract rfl rfl rfl ?_
        refine r_assign rfl rfl ?_
        refine r_assign rfl rfl ?_
        refine awl_nil ?_
        refine x_then ?_
        refine awp_seq ?_
        refine awp_seq ?_
        refine awp_region ?_
        refine r_move rfl rfl ?_
        refine r_not rfl rfl ?_
        refine awl_nil ?_
        refine x_then ?_
        refine awp_condT rfl ?_
        refine awp_exit ?_
        refine x_thenE ?_
        refine x_blockE ?_
        refine x_then ?_
        refine awp_region ?_
        refine r_ari _ rfl rfl rfl (wrap_id (by first | omega | (simp; omega))) rfl ?_
        refine r_move rfl rfl ?_
        refine awl_nil ?_
        refine x_then ?_
        refine ⟨ms.length - (k + 1), ⟨65, [(1, .a (.fn fa ca)), (2, .a (strA n)), (7, .own 7 3 (((ms.take (k + 1)).foldl (stepV at_ n) []).map Ver.cs)), (17, .a (numsA ms)), (18, .a (.v (.int .i64 ((ms.map fun x => [AV.v (.int .u64 x)]).length)))), (19, .a (.v (.int .i64 (((k + 1) : Int)))))], []⟩, ⟨rfl, (Slots.cons rfl (by first | exact .refl _ | exact .nilOwn _ _ | exact .nilSl _ | exact .ownSl _ _ _  | exact SV.le.ownEq (by rw [em] <;> rfl) | exact SV.le.of_eq (by rw [em] <;> rfl)) (Slots.cons rfl (by first | exact .refl _ | exact .nilOwn _ _ | exact .nilSl _ | exact .ownSl _ _ _  | exact SV.le.ownEq (by rw [em] <;> rfl) | exact SV.le.of_eq (by rw [em] <;> rfl)) (Slots.cons rfl (by first | exact .refl _ | exact .nilOwn _ _ | exact .nilSl _ | exact .ownSl _ _ _  | exact SV.le.ownEq (by rw [em] <;> rfl) | exact SV.le.of_eq (by rw [em] <;> rfl)) (Slots.cons rfl (by first | exact .refl _ | exact .nilOwn _ _ | exact .nilSl _ | exact .ownSl _ _ _  | exact SV.le.ownEq (by rw [em] <;> rfl) | exact SV.le.of_eq (by rw [em] <;> rfl)) (Slots.cons rfl (by first | exact .refl _ | exact .nilOwn _ _ | exact .nilSl _ | exact .ownSl _ _ _  | exact SV.le.ownEq (by rw [em] <;> rfl) | exact SV.le.of_eq (by rw [em] <;> rfl)) (Slots.cons rfl (by first | exact .refl _ | exact .nilOwn _ _ | exact .nilSl _ | exact .ownSl _ _ _  | exact SV.le.ownEq (by rw [em] <;> rfl) | exact SV.le.of_eq (by rw [em] <;> rfl)) Slots.nil)))))), (by first | exact List.Sublist.refl _ | exact .cons_cons _ (.cons _ (.refl _)) | exact List.nil_sublist _ | exact .cons _ (.refl _) | exact .cons _ (.cons _ (.refl _)) | exact .cons _ (.cons _ (.cons _ (.refl _))) | exact .cons _ (.cons _ (.cons _ (.cons _ (.refl _)))) | exact .cons_cons _ (List.nil_sublist _))⟩, (by omega), ⟨k + 1, rfl, rfl, (by omega)⟩⟩
    ·
      have hge : ms.length ≤ k := by have := of_decide_eq_false hc1; simp at this; omega
      have hkl : ms.take k = ms := List.take_of_length_le hge
      refine awp_exit ?_
      refine x_thenE ?_
      refine x_thenE ?_
      refine x_blockE ?_
      refine x_then ?_
      refine awp_seq ?_
      refine awp_region ?_
      refine r_move rfl rfl ?_
      refine r_assign rfl rfl ?_
      refine awl_nil ?_
      refine x_then ?_
      refine awp_ret ?_
      exact ⟨(.inl rfl), _, [], (.one (by first | exact .mk rfl rfl | exact .nil rfl)), ⟨rfl, by rw [hkl]; rfl⟩, (List.nil_sublist _), (by simp)⟩

set_option maxHeartbeats 2000000 in
theorem past_walk (ms : List Int) (ds : List Disk) (hok : ∀ d ∈ ds, OkD d) (nn : Nat) (hnn : nn < 256) : AC Try.prog 10 [numsA ms, disksA ds, .v (.int .u8 (nn : Int))] [] (fun r n => n = [] ∧ r = boolA true) := by
  refine ac_of_awp (rs := [6]) (nt := 117) Try.func10 rfl rfl rfl rfl (fun w0 C0 hq => ?_)
  refine awp_seq ?_
  refine awp_region ?_
  refine r_assign rfl rfl ?_
  refine awl_nil ?_
  refine x_then ?_
  refine awp_seq ?_
  refine awp_seq ?_
  refine awp_region ?_
  refine r_call0 hq rfl rfl .nil (awake_ok) rfl TF.en11 rfl (fun r hr => ?_)
  obtain rfl := hr
  refine r_not rfl rfl ?_
  refine awl_nil ?_
  refine x_then ?_
  refine awp_cond rfl (fun hc0 => ?_) (fun hc0 => ?_)
  ·
    exfalso; exact absurd hc0 (by decide)
  ·
    refine awp_skip ?_
    refine x_then ?_
    refine awp_seq ?_
    refine awp_seq ?_
    refine awp_region ?_
    refine r_move rfl rfl ?_
    refine r_move rfl rfl ?_
    refine r_call0 hq rfl rfl (.cons (.ev rfl rfl) (.cons (.ev rfl rfl) .nil)) (great_ok ms ds) rfl TF.en12 rfl (fun r hr => ?_)
    rcases hr with rfl | ⟨rfl, hm12, hd12⟩
    
    ·
      refine r_cmp rfl rfl rfl rfl ?_
      refine r_move rfl rfl ?_
      refine g_skip rfl rfl rfl rfl ?_
      refine g_skip rfl rfl rfl rfl ?_
      refine g_skip rfl rfl rfl rfl ?_
      refine r_pickT rfl rfl rfl rfl ?_
      refine awl_nil ?_
      refine x_then ?_
      refine awp_condT rfl ?_
      refine awp_seq ?_
      refine awp_region ?_
      refine r_assign rfl rfl ?_
      refine awl_nil ?_
      refine x_then ?_
      refine awp_ret ?_
      refine x_thenR ?_
      exact ⟨(.inl rfl), _, [], (.one (by first | exact .mk rfl rfl | exact .nil rfl)), ⟨rfl, rfl⟩, (List.nil_sublist _), (by simp)⟩
    ·
      refine r_cmp rfl rfl rfl rfl ?_
      refine r_move rfl rfl ?_
      refine g_run rfl rfl rfl ?_
      refine r_move rfl rfl ?_
      refine g_run rfl rfl rfl ?_
      refine r_call0 hq rfl rfl (.cons (.ev rfl rfl) .nil) (rrise_ok ms (by omega)) rfl TF.en16 rfl (fun r hr => ?_)
      obtain rfl := hr
      refine g_run rfl rfl rfl ?_
      refine r_not rfl rfl ?_
      refine r_pickF rfl rfl rfl rfl ?_
      refine awl_nil ?_
      refine x_then ?_
      refine awp_cond rfl (fun hc1 => ?_) (fun hc1 => ?_)
      ·
        refine awp_seq ?_
        refine awp_region ?_
        refine r_assign rfl rfl ?_
        refine awl_nil ?_
        refine x_then ?_
        refine awp_ret ?_
        refine x_thenR ?_
        exact ⟨(.inl rfl), _, [], (.one (by first | exact .mk rfl rfl | exact .nil rfl)), ⟨rfl, rfl⟩, (List.nil_sublist _), (by simp)⟩
      ·
        have hrf : riseF ms = true := by simpa using hc1
        have hp := rise_pw hrf
        refine awp_skip ?_
        refine x_then ?_
        refine awp_seq ?_
        refine awp_region ?_
        refine r_move rfl rfl ?_
        refine r_conv (nn : Int) rfl TF.un5 TF.un3 (wrap_id (by omega)) rfl ?_
        refine r_div ((nn % 4 : Nat) : Int) rfl rfl (rem_some (by decide)) (Int.ofNat_tmod nn 4).symm rfl ?_
        refine r_call0 hq rfl rfl (.cons (.ev rfl rfl) .nil) (name_ok (nn % 4) (Nat.mod_lt _ (by decide))) rfl TF.en21 rfl (fun r hr => ?_)
        obtain rfl := hr
        obtain ⟨s, hs⟩ : ∃ s, s = nm (nn % 4) := ⟨_, rfl⟩
        rw [← hs]
        refine r_assign rfl rfl ?_
        refine awl_nil ?_
        refine x_then ?_
        refine awp_seq ?_
        refine awp_region ?_
        refine r_move rfl rfl ?_
        refine r_move rfl rfl ?_
        refine r_move rfl rfl ?_
        refine r_call0 hq rfl rfl (.cons (.ev rfl rfl) (.cons (.ev rfl rfl) .nil)) (at_ok ms ds) rfl TF.en13 rfl (fun r hr => ?_)
        obtain rfl := hr
        refine r_call0 hq rfl rfl (.cons (.ev rfl rfl) (.cons (.ev rfl rfl) .nil)) (tlD_ok ms (by omega) ms ds (by omega) hok) rfl TF.en14 rfl (fun r hr => ?_)
        obtain rfl := hr
        obtain ⟨E, hE⟩ : ∃ E, E = tlF ms (atF ms ds) := ⟨_, rfl⟩
        rw [← hE]
        have hEl : E.length ≤ 48 := by rw [hE]; have := tlF_len ms ms ds; omega
        have hEg : ∀ e ∈ E, GoodE e := by rw [hE]; exact tl_good
        refine r_assign rfl rfl ?_
        refine awl_nil ?_
        refine x_then ?_
        refine awp_seq ?_
        refine awp_region ?_
        refine r_move rfl rfl ?_
        refine r_move rfl rfl ?_
        refine r_move rfl rfl ?_
        refine r_call0 hq rfl rfl (.cons (.ev rfl rfl) (.cons (.ev rfl rfl) .nil)) (at_ok ms ds) rfl TF.en13 rfl (fun r hr => ?_)
        obtain rfl := hr
        refine r_move rfl rfl ?_
        refine r_call0 hq rfl rfl (.cons (.ev rfl rfl) (.cons (.ev rfl rfl) (.cons (.ev rfl rfl) .nil))) (pof_ok ms (atF ms ds) s (by omega) (good_at ms ds) at_en (fun m => atc_ok ms ds (by omega) hok m)) rfl TF.en28 rfl (fun r hr => ?_)
        obtain rfl := hr
        obtain ⟨V, hV⟩ : ∃ V, V = versOf (atF ms ds) s ms := ⟨_, rfl⟩
        rw [← hV]
        have hVl : V.length ≤ 12 := by rw [hV]; have := vers_len (atF ms ds) s ms []; simp at this; exact Nat.le_trans this hm12
        refine r_assign rfl rfl ?_
        refine awl_nil ?_
        refine x_then ?_
        refine awp_seq ?_
        refine awp_seq ?_
        refine awp_region ?_
        refine r_move rfl rfl ?_
        first | (refine r_lenS rfl rfl TF.sl64 rfl ?_) | (refine r_lenNil rfl TF.sl64 rfl ?_) | (refine r_lenV rfl TF.sl64 rfl ?_)
        refine r_cmp rfl rfl rfl rfl ?_
        refine awl_nil ?_
        refine x_then ?_
        refine awp_cond rfl (fun hc2 => ?_) (fun hc2 => ?_)
        ·
          exfalso; have := of_decide_eq_true hc2; simp at this; omega
        ·
          refine awp_skip ?_
          refine x_then ?_
          refine awp_seq ?_
          refine awp_seq ?_
          refine awp_region ?_
          refine r_assign rfl rfl ?_
          refine awl_nil ?_
          refine x_then ?_
          refine awp_block ?_
          refine awp_loop (fun nn0 S => ∃ i : Nat, S = ⟨117, [(0, .a (numsA ms)), (1, .a (disksA ds)), (7, .a (strA s)), (8, .a (evsA E)), (9, .a (versA V)), (10, .a (.v (.int .i64 ((i : Int)))))], []⟩ ∧ nn0 = ms.length - i ∧ (i ≤ ms.length)) (ms.length - (0)) ⟨117, [(0, .a (numsA ms)), (1, .a (disksA ds)), (7, .a (strA s)), (8, .a (evsA E)), (9, .a (versA V)), (10, .a (.v (.int .i64 (((0) : Int)))))], []⟩ ⟨rfl, (Slots.cons rfl (by first | exact .refl _ | exact .nilOwn _ _ | exact .nilSl _ | exact .ownSl _ _ _  | exact SV.le.of_eq (by simp)) (Slots.cons rfl (by first | exact .refl _ | exact .nilOwn _ _ | exact .nilSl _ | exact .ownSl _ _ _  | exact SV.le.of_eq (by simp)) (Slots.cons rfl (by first | exact .refl _ | exact .nilOwn _ _ | exact .nilSl _ | exact .ownSl _ _ _  | exact SV.le.of_eq (by simp)) (Slots.cons rfl (by first | exact .refl _ | exact .nilOwn _ _ | exact .nilSl _ | exact .ownSl _ _ _  | exact SV.le.of_eq (by simp)) (Slots.cons rfl (by first | exact .refl _ | exact .nilOwn _ _ | exact .nilSl _ | exact .ownSl _ _ _  | exact SV.le.of_eq (by simp)) (Slots.cons rfl (by first | exact .refl _ | exact .nilOwn _ _ | exact .nilSl _ | exact .ownSl _ _ _  | exact SV.le.of_eq (by simp)) Slots.nil)))))), (by first | exact List.Sublist.refl _ | exact .cons_cons _ (.cons _ (.refl _)) | exact List.nil_sublist _ | exact .cons _ (.refl _) | exact .cons _ (.cons _ (.refl _)) | exact .cons _ (.cons _ (.cons _ (.refl _))) | exact .cons _ (.cons _ (.cons _ (.cons _ (.refl _)))) | exact .cons_cons _ (List.nil_sublist _))⟩ ⟨0, rfl, rfl, Nat.zero_le _⟩ ?_
          rintro nn0 _ ⟨i, rfl, rfl, hi⟩
          refine awp_seq ?_
          refine awp_seq ?_
          refine awp_region ?_
          refine r_move rfl rfl ?_
          refine r_move rfl rfl ?_
          first | (refine r_lenS rfl rfl TF.sl22 rfl ?_) | (refine r_lenNil rfl TF.sl22 rfl ?_) | (refine r_lenV rfl TF.sl22 rfl ?_)
          refine r_cmp rfl rfl rfl rfl ?_
          refine awl_nil ?_
          refine x_then ?_
          refine awp_cond rfl (fun hc3 => ?_) (fun hc3 => ?_)
          ·
            have hltm : i < ms.length := by have := of_decide_eq_true hc3; simpa using this
            obtain ⟨m, hm⟩ := get_lt hltm
            refine awp_skip ?_
            refine x_then ?_
            refine awp_seq ?_
            refine awp_block ?_
            refine awp_seq ?_
            refine awp_seq ?_
            refine awp_region ?_
            refine r_move rfl rfl ?_
            refine r_move rfl rfl ?_
            first | (refine r_lenS rfl rfl TF.sl23 rfl ?_) | (refine r_lenNil rfl TF.sl23 rfl ?_) | (refine r_lenV rfl TF.sl23 rfl ?_)
            refine r_cmp rfl rfl rfl rfl ?_
            refine r_move rfl rfl ?_
            refine g_cases (t' := 56) rfl (fun hg56 => ?_) (fun hg56 => ?_)
            ·
              refine g_skip rfl rfl hg56 rfl ?_
              refine g_skip rfl rfl hg56 rfl ?_
              refine g_skip rfl rfl hg56 rfl ?_
              refine g_skip rfl rfl hg56 rfl ?_
              refine g_skip rfl rfl hg56 rfl ?_
              refine g_skip rfl rfl hg56 rfl ?_
              refine r_pickT rfl hg56 rfl rfl ?_
              refine awl_nil ?_
              refine x_then ?_
              refine awp_condT rfl ?_
              skip
              refine awp_exit ?_
              refine x_thenE ?_
              refine x_blockE ?_
              refine x_then ?_
              refine awp_region ?_
              refine r_move rfl rfl ?_
              refine r_ari _ rfl rfl rfl (wrap_id (by first | omega | (simp; omega))) rfl ?_
              refine r_assign rfl rfl ?_
              refine awl_nil ?_
              refine x_then ?_
              refine ⟨ms.length - (i + 1), ⟨117, [(0, .a (numsA ms)), (1, .a (disksA ds)), (7, .a (strA s)), (8, .a (evsA E)), (9, .a (versA V)), (10, .a (.v (.int .i64 (((i + 1) : Int)))))], []⟩, ⟨rfl, (Slots.cons rfl (by first | exact .refl _ | exact .nilOwn _ _ | exact .nilSl _ | exact .ownSl _ _ _  | exact SV.le.of_eq (by simp)) (Slots.cons rfl (by first | exact .refl _ | exact .nilOwn _ _ | exact .nilSl _ | exact .ownSl _ _ _  | exact SV.le.of_eq (by simp)) (Slots.cons rfl (by first | exact .refl _ | exact .nilOwn _ _ | exact .nilSl _ | exact .ownSl _ _ _  | exact SV.le.of_eq (by simp)) (Slots.cons rfl (by first | exact .refl _ | exact .nilOwn _ _ | exact .nilSl _ | exact .ownSl _ _ _  | exact SV.le.of_eq (by simp)) (Slots.cons rfl (by first | exact .refl _ | exact .nilOwn _ _ | exact .nilSl _ | exact .ownSl _ _ _  | exact SV.le.of_eq (by simp)) (Slots.cons rfl (by first | exact .refl _ | exact .nilOwn _ _ | exact .nilSl _ | exact .ownSl _ _ _  | exact SV.le.of_eq (by simp)) Slots.nil)))))), (by first | exact List.Sublist.refl _ | exact .cons_cons _ (.cons _ (.refl _)) | exact List.nil_sublist _ | exact .cons _ (.refl _) | exact .cons _ (.cons _ (.refl _)) | exact .cons _ (.cons _ (.cons _ (.refl _))) | exact .cons _ (.cons _ (.cons _ (.cons _ (.refl _)))) | exact .cons_cons _ (List.nil_sublist _))⟩, (by omega), ⟨i + 1, rfl, rfl, (by omega)⟩⟩
            ·
              obtain ⟨d, hdk⟩ := get_lt (show i < ds.length by have := of_decide_eq_false hg56; simp at this; omega)
              refine g_run rfl rfl hg56 ?_
              refine r_move rfl rfl ?_
              refine g_run rfl rfl hg56 ?_
              refine r_move rfl rfl ?_
              refine g_run rfl rfl hg56 ?_
              refine r_index rfl rfl rfl TF.sl23 TF.sz38 (by omega) (get_map hdk) rfl ?_
              refine g_run rfl rfl hg56 ?_
              first | (refine r_fieldb rfl TF.f38_0 TF.sz4 rfl ?_) | (refine r_fieldcp rfl TF.f38_0 TF.sz4 rfl ?_)
              refine g_run rfl rfl hg56 ?_
              refine r_load1 rfl TF.agg4 rfl ?_
              refine g_run rfl rfl hg56 ?_
              refine r_not rfl rfl ?_
              refine r_pickF rfl hg56 rfl rfl ?_
              refine awl_nil ?_
              refine x_then ?_
              refine awp_cond rfl (fun hc4 => ?_) (fun hc4 => ?_)
              ·
                skip
                refine awp_exit ?_
                refine x_thenE ?_
                refine x_blockE ?_
                refine x_then ?_
                refine awp_region ?_
                refine r_move rfl rfl ?_
                refine r_ari _ rfl rfl rfl (wrap_id (by first | omega | (simp; omega))) rfl ?_
                refine r_assign rfl rfl ?_
                refine awl_nil ?_
                refine x_then ?_
                refine ⟨ms.length - (i + 1), ⟨117, [(0, .a (numsA ms)), (1, .a (disksA ds)), (7, .a (strA s)), (8, .a (evsA E)), (9, .a (versA V)), (10, .a (.v (.int .i64 (((i + 1) : Int)))))], []⟩, ⟨rfl, (Slots.cons rfl (by first | exact .refl _ | exact .nilOwn _ _ | exact .nilSl _ | exact .ownSl _ _ _  | exact SV.le.of_eq (by simp)) (Slots.cons rfl (by first | exact .refl _ | exact .nilOwn _ _ | exact .nilSl _ | exact .ownSl _ _ _  | exact SV.le.of_eq (by simp)) (Slots.cons rfl (by first | exact .refl _ | exact .nilOwn _ _ | exact .nilSl _ | exact .ownSl _ _ _  | exact SV.le.of_eq (by simp)) (Slots.cons rfl (by first | exact .refl _ | exact .nilOwn _ _ | exact .nilSl _ | exact .ownSl _ _ _  | exact SV.le.of_eq (by simp)) (Slots.cons rfl (by first | exact .refl _ | exact .nilOwn _ _ | exact .nilSl _ | exact .ownSl _ _ _  | exact SV.le.of_eq (by simp)) (Slots.cons rfl (by first | exact .refl _ | exact .nilOwn _ _ | exact .nilSl _ | exact .ownSl _ _ _  | exact SV.le.of_eq (by simp)) Slots.nil)))))), (by first | exact List.Sublist.refl _ | exact .cons_cons _ (.cons _ (.refl _)) | exact List.nil_sublist _ | exact .cons _ (.refl _) | exact .cons _ (.cons _ (.refl _)) | exact .cons _ (.cons _ (.cons _ (.refl _))) | exact .cons _ (.cons _ (.cons _ (.cons _ (.refl _)))) | exact .cons_cons _ (List.nil_sublist _))⟩, (by omega), ⟨i + 1, rfl, rfl, (by omega)⟩⟩
              ·
                have htd : d.told = true := by simpa using hc4
                have hlr := last_idx hp hm hdk htd
                have hva := vers_at (at_ := atF ms ds) (n := s) hp hm (by rw [at_idx hp hm hdk]; exact htd)
                rw [at_idx hp hm hdk, ← hV] at hva
                simp only at hva
                obtain ⟨hv1, hv2⟩ := alike_eq hva
                have hgd := goodD d
                refine awp_skip ?_
                refine x_then ?_
                refine awp_seq ?_
                refine awp_region ?_
                refine r_move rfl rfl ?_
                refine r_move rfl rfl ?_
                refine r_move rfl rfl ?_
                refine r_index rfl rfl rfl TF.sl22 TF.sz30 (by omega) (get_map hm) rfl ?_
                refine r_load1 rfl TF.agg30 rfl ?_
                refine r_call0 hq rfl rfl (.cons (.ev rfl rfl) (.cons (.ev rfl rfl) .nil)) (tat_ok E m (by omega) (fun e he => goodE_bnd (hEg e he))) rfl TF.en23 rfl (fun r hr => ?_)
                obtain rfl := hr
                rw [show AtF E m = (0, filesD d) from by rw [hE, AtF_tl hrf, hlr]]
                refine r_move rfl rfl ?_
                refine r_extract rfl rfl rfl ?_
                refine r_extract rfl rfl rfl ?_
                refine r_assign rfl rfl ?_
                refine r_assign rfl rfl ?_
                refine awl_nil ?_
                refine x_then ?_
                refine awp_seq ?_
                refine awp_region ?_
                refine r_move rfl rfl ?_
                refine r_move rfl rfl ?_
                refine r_call0 hq rfl rfl (.cons (.ev rfl rfl) (.cons (.ev rfl rfl) .nil)) (ffind_ok (filesD d) s (by have := hgd.1; omega) (fun f hf => (hgd.2 f hf).2)) rfl TF.en29 rfl (fun r hr => ?_)
                obtain rfl := hr
                have hfx : findR (filesD d) s = .tup [.agg (File.cs ⟨cond (verAt (filesD d) s m).is s E0, (verAt (filesD d) s m).data⟩), boolA (verAt (filesD d) s m).is] := by unfold findR verAt; cases (filesD d).find? (fun f => decide (f.name = s)) <;> rfl
                rw [hfx]
                obtain ⟨W, hW⟩ : ∃ W, W = verAt (filesD d) s m := ⟨_, rfl⟩
                rw [← hW] at hv1 hv2 ⊢
                refine r_move rfl rfl ?_
                refine r_extract rfl rfl rfl ?_
                refine r_extract rfl rfl rfl ?_
                refine r_alloc TF.zero67 rfl (fun b13 => ?_)
                refine r_store 0 rfl rfl rfl TF.sz67 rfl rfl rfl ?_
                refine r_assign rfl rfl ?_
                refine awl_nil ?_
                refine x_then ?_
                refine awp_seq ?_
                refine awp_region ?_
                refine r_build (parts := []) rfl TF.pl71 TF.zero71 rfl rfl rfl ?_
                refine r_alloc TF.zero71 rfl (fun b15 => ?_)
                first | (refine r_store 0 rfl rfl rfl TF.sz71 rfl rfl rfl ?_) | (refine r_store 1 rfl rfl rfl TF.sz71 rfl rfl rfl ?_)
                refine awl_nil ?_
                refine x_then ?_
                refine awp_seq ?_
                refine awp_seq ?_
                refine awp_region ?_
                refine r_assign rfl rfl ?_
                refine awl_nil ?_
                refine x_then ?_
                refine awp_block ?_
                refine awp_loop (fun nn0 S => ∃ k : Nat, S = ⟨117, [(0, .a (numsA ms)), (1, .a (disksA ds)), (7, .a (strA s)), (8, .a (evsA E)), (9, .a (versA V)), (10, .a (.v (.int .i64 ((i : Int))))), (12, .a (.v (.int .i64 (0)))), (13, .a (.v (.pointer (some ⟨b13, 0, none⟩)))), (14, .a (boolA W.is)), (15, .a (.v (.pointer (some ⟨b15, 0, none⟩)))), (16, .a (.v (.int .i64 ((k : Int)))))], [⟨b15, true, .box (Ver.cs (lastV m (V.take k)))⟩, ⟨b13, true, .box (File.cs ⟨cond W.is s E0, W.data⟩)⟩]⟩ ∧ nn0 = V.length - k ∧ (k ≤ V.length)) (V.length - (0)) ⟨117, [(0, .a (numsA ms)), (1, .a (disksA ds)), (7, .a (strA s)), (8, .a (evsA E)), (9, .a (versA V)), (10, .a (.v (.int .i64 ((i : Int))))), (12, .a (.v (.int .i64 (0)))), (13, .a (.v (.pointer (some ⟨b13, 0, none⟩)))), (14, .a (boolA W.is)), (15, .a (.v (.pointer (some ⟨b15, 0, none⟩)))), (16, .a (.v (.int .i64 (((0) : Int)))))], [⟨b15, true, .box (Ver.cs (lastV m (V.take (0))))⟩, ⟨b13, true, .box (File.cs ⟨cond W.is s E0, W.data⟩)⟩]⟩ ⟨rfl, (Slots.cons rfl (by first | exact .refl _ | exact .nilOwn _ _ | exact .nilSl _ | exact .ownSl _ _ _  | exact SV.le.of_eq (by simp)) (Slots.cons rfl (by first | exact .refl _ | exact .nilOwn _ _ | exact .nilSl _ | exact .ownSl _ _ _  | exact SV.le.of_eq (by simp)) (Slots.cons rfl (by first | exact .refl _ | exact .nilOwn _ _ | exact .nilSl _ | exact .ownSl _ _ _  | exact SV.le.of_eq (by simp)) (Slots.cons rfl (by first | exact .refl _ | exact .nilOwn _ _ | exact .nilSl _ | exact .ownSl _ _ _  | exact SV.le.of_eq (by simp)) (Slots.cons rfl (by first | exact .refl _ | exact .nilOwn _ _ | exact .nilSl _ | exact .ownSl _ _ _  | exact SV.le.of_eq (by simp)) (Slots.cons rfl (by first | exact .refl _ | exact .nilOwn _ _ | exact .nilSl _ | exact .ownSl _ _ _  | exact SV.le.of_eq (by simp)) (Slots.cons rfl (by first | exact .refl _ | exact .nilOwn _ _ | exact .nilSl _ | exact .ownSl _ _ _  | exact SV.le.of_eq (by simp)) (Slots.cons rfl (by first | exact .refl _ | exact .nilOwn _ _ | exact .nilSl _ | exact .ownSl _ _ _  | exact SV.le.of_eq (by simp)) (Slots.cons rfl (by first | exact .refl _ | exact .nilOwn _ _ | exact .nilSl _ | exact .ownSl _ _ _  | exact SV.le.of_eq (by simp)) (Slots.cons rfl (by first | exact .refl _ | exact .nilOwn _ _ | exact .nilSl _ | exact .ownSl _ _ _  | exact SV.le.of_eq (by simp)) (Slots.cons rfl (by first | exact .refl _ | exact .nilOwn _ _ | exact .nilSl _ | exact .ownSl _ _ _  | exact SV.le.of_eq (by simp)) Slots.nil))))))))))), (by first | exact List.Sublist.refl _ | exact .cons_cons _ (.cons _ (.refl _)) | exact List.nil_sublist _ | exact .cons _ (.refl _) | exact .cons _ (.cons _ (.refl _)) | exact .cons _ (.cons _ (.cons _ (.refl _))) | exact .cons _ (.cons _ (.cons _ (.cons _ (.refl _)))) | exact .cons_cons _ (List.nil_sublist _))⟩ ⟨0, rfl, rfl, Nat.zero_le _⟩ ?_
                rintro nn0 _ ⟨k, rfl, rfl, hk⟩
                refine awp_seq ?_
                refine awp_seq ?_
                refine awp_region ?_
                refine r_move rfl rfl ?_
                refine r_move rfl rfl ?_
                first | (refine r_lenS rfl rfl TF.sl64 rfl ?_) | (refine r_lenNil rfl TF.sl64 rfl ?_) | (refine r_lenV rfl TF.sl64 rfl ?_)
                refine r_cmp rfl rfl rfl rfl ?_
                refine awl_nil ?_
                refine x_then ?_
                refine awp_cond rfl (fun hc5 => ?_) (fun hc5 => ?_)
                ·
                  have hltx : k < V.length := by have := of_decide_eq_true hc5; simpa using this
                  obtain ⟨x, hx⟩ := get_lt hltx
                  refine awp_skip ?_
                  refine x_then ?_
                  refine awp_seq ?_
                  refine awp_block ?_
                  refine awp_seq ?_
                  refine awp_drawS [86, 87, 88, 89, 90, 91, 92, 93, 94] [_, _, _, _, _, _, _, _, _] [] [] TF.mixed rfl rfl rfl ⟨⟨⟨⟨⟨⟨⟨⟨⟨trivial
                    , ⟨_, rfl, fun sl hd hr ho => by
                        refine r_move (hr 9 _ rfl rfl rfl) rfl ?_
                        exact awl_nil ⟨rfl, post_put⟩⟩⟩
                    , ⟨_, rfl, fun sl hd hr ho => by
                        refine r_move (hr 16 _ rfl rfl rfl) rfl ?_
                        exact awl_nil ⟨rfl, post_put⟩⟩⟩
                    , ⟨_, rfl, fun sl hd hr ho => by
                        refine r_index (hd 0 _ rfl rfl rfl) rfl (hd 1 _ rfl rfl rfl) TF.sl64 TF.sz71 (by omega) (get_map hx) rfl ?_
                        exact awl_nil ⟨rfl, post_put⟩⟩⟩
                    , ⟨_, rfl, fun sl hd hr ho => by
                        first | (refine r_fieldb (hd 2 _ rfl rfl rfl) TF.f71_0 TF.sz30 rfl ?_) | (refine r_fieldcp (hd 2 _ rfl rfl rfl) TF.f71_0 TF.sz30 rfl ?_)
                        exact awl_nil ⟨rfl, post_put⟩⟩⟩
                    , ⟨_, rfl, fun sl hd hr ho => by
                        first | (refine r_load1 (hd 3 _ rfl rfl rfl) TF.agg30 rfl ?_) | (refine r_load1b 0 (hd 3 _ rfl rfl rfl) rfl rfl TF.agg30 rfl ?_) | (refine r_load1b 1 (hd 3 _ rfl rfl rfl) rfl rfl TF.agg30 rfl ?_)
                        exact awl_nil ⟨rfl, post_put⟩⟩⟩
                    , ⟨_, rfl, fun sl hd hr ho => by
                        refine r_move (hr 0 _ rfl rfl rfl) rfl ?_
                        exact awl_nil ⟨rfl, post_put⟩⟩⟩
                    , ⟨_, rfl, fun sl hd hr ho => by
                        refine r_move (hr 10 _ rfl rfl rfl) rfl ?_
                        exact awl_nil ⟨rfl, post_put⟩⟩⟩
                    , ⟨_, rfl, fun sl hd hr ho => by
                        refine r_index (hd 5 _ rfl rfl rfl) rfl (hd 6 _ rfl rfl rfl) TF.sl22 TF.sz30 (by omega) (get_map hm) rfl ?_
                        exact awl_nil ⟨rfl, post_put⟩⟩⟩
                    , ⟨_, rfl, fun sl hd hr ho => by
                        first | (refine r_load1 (hd 7 _ rfl rfl rfl) TF.agg30 rfl ?_) | (refine r_load1b 0 (hd 7 _ rfl rfl rfl) rfl rfl TF.agg30 rfl ?_) | (refine r_load1b 1 (hd 7 _ rfl rfl rfl) rfl rfl TF.agg30 rfl ?_)
                        exact awl_nil ⟨rfl, post_put⟩⟩⟩
                    (by rfl) ?_
                  refine r_cmp rfl rfl rfl rfl ?_
                  refine awl_nil ?_
                  refine x_then ?_
                  refine awp_cond rfl (fun hc6 => ?_) (fun hc6 => ?_)
                  ·
                    have hle : x.frm ≤ m := of_decide_eq_true hc6
                    refine awp_region ?_
                    refine r_move rfl rfl ?_
                    refine r_move rfl rfl ?_
                    refine r_index rfl rfl rfl TF.sl64 TF.sz71 (by omega) (get_map hx) rfl ?_
                    first | (refine r_loadA rfl TF.agg71 TF.sz71 rfl rfl ?_) | (refine r_loadAb 0 rfl rfl TF.agg71 TF.sz71 rfl rfl ?_) | (refine r_loadAb 1 rfl rfl TF.agg71 TF.sz71 rfl rfl ?_)
                    first | (refine r_store 0 rfl rfl rfl TF.sz71 rfl rfl rfl ?_) | (refine r_store 1 rfl rfl rfl TF.sz71 rfl rfl rfl ?_)
                    refine awl_nil ?_
                    refine x_block ?_
                    refine x_then ?_
                    refine awp_region ?_
                    refine r_move rfl rfl ?_
                    refine r_ari _ rfl rfl rfl (wrap_id (by first | omega | (simp; omega))) rfl ?_
                    refine r_assign rfl rfl ?_
                    refine awl_nil ?_
                    refine x_then ?_
                    have hfv := fold_takeV (m := m) hx
                    refine ⟨V.length - (k + 1), ⟨117, [(0, .a (numsA ms)), (1, .a (disksA ds)), (7, .a (strA s)), (8, .a (evsA E)), (9, .a (versA V)), (10, .a (.v (.int .i64 ((i : Int))))), (12, .a (.v (.int .i64 (0)))), (13, .a (.v (.pointer (some ⟨b13, 0, none⟩)))), (14, .a (boolA W.is)), (15, .a (.v (.pointer (some ⟨b15, 0, none⟩)))), (16, .a (.v (.int .i64 (((k + 1) : Int)))))], [⟨b15, true, .box (Ver.cs (lastV m (V.take (k + 1))))⟩, ⟨b13, true, .box (File.cs ⟨cond W.is s E0, W.data⟩)⟩]⟩, ⟨rfl, (Slots.cons rfl (by first | exact .refl _ | exact .nilOwn _ _ | exact .nilSl _ | exact .ownSl _ _ _  | exact SV.le.of_eq (by simp)) (Slots.cons rfl (by first | exact .refl _ | exact .nilOwn _ _ | exact .nilSl _ | exact .ownSl _ _ _  | exact SV.le.of_eq (by simp)) (Slots.cons rfl (by first | exact .refl _ | exact .nilOwn _ _ | exact .nilSl _ | exact .ownSl _ _ _  | exact SV.le.of_eq (by simp)) (Slots.cons rfl (by first | exact .refl _ | exact .nilOwn _ _ | exact .nilSl _ | exact .ownSl _ _ _  | exact SV.le.of_eq (by simp)) (Slots.cons rfl (by first | exact .refl _ | exact .nilOwn _ _ | exact .nilSl _ | exact .ownSl _ _ _  | exact SV.le.of_eq (by simp)) (Slots.cons rfl (by first | exact .refl _ | exact .nilOwn _ _ | exact .nilSl _ | exact .ownSl _ _ _  | exact SV.le.of_eq (by simp)) (Slots.cons rfl (by first | exact .refl _ | exact .nilOwn _ _ | exact .nilSl _ | exact .ownSl _ _ _  | exact SV.le.of_eq (by simp)) (Slots.cons rfl (by first | exact .refl _ | exact .nilOwn _ _ | exact .nilSl _ | exact .ownSl _ _ _  | exact SV.le.of_eq (by simp)) (Slots.cons rfl (by first | exact .refl _ | exact .nilOwn _ _ | exact .nilSl _ | exact .ownSl _ _ _  | exact SV.le.of_eq (by simp)) (Slots.cons rfl (by first | exact .refl _ | exact .nilOwn _ _ | exact .nilSl _ | exact .ownSl _ _ _  | exact SV.le.of_eq (by simp)) (Slots.cons rfl (by first | exact .refl _ | exact .nilOwn _ _ | exact .nilSl _ | exact .ownSl _ _ _  | exact SV.le.of_eq (by simp)) Slots.nil))))))))))), (by rw [hfv]; first | (rw [if_pos hle]; exact List.Sublist.refl _) | (rw [if_neg hle]; exact List.Sublist.refl _))⟩, (by omega), ⟨k + 1, rfl, rfl, (by omega)⟩⟩
                  ·
                    have hle : ¬ x.frm ≤ m := of_decide_eq_false hc6
                    refine awp_skip ?_
                    refine x_block ?_
                    refine x_then ?_
                    refine awp_region ?_
                    refine r_move rfl rfl ?_
                    refine r_ari _ rfl rfl rfl (wrap_id (by first | omega | (simp; omega))) rfl ?_
                    refine r_assign rfl rfl ?_
                    refine awl_nil ?_
                    refine x_then ?_
                    have hfv := fold_takeV (m := m) hx
                    refine ⟨V.length - (k + 1), ⟨117, [(0, .a (numsA ms)), (1, .a (disksA ds)), (7, .a (strA s)), (8, .a (evsA E)), (9, .a (versA V)), (10, .a (.v (.int .i64 ((i : Int))))), (12, .a (.v (.int .i64 (0)))), (13, .a (.v (.pointer (some ⟨b13, 0, none⟩)))), (14, .a (boolA W.is)), (15, .a (.v (.pointer (some ⟨b15, 0, none⟩)))), (16, .a (.v (.int .i64 (((k + 1) : Int)))))], [⟨b15, true, .box (Ver.cs (lastV m (V.take (k + 1))))⟩, ⟨b13, true, .box (File.cs ⟨cond W.is s E0, W.data⟩)⟩]⟩, ⟨rfl, (Slots.cons rfl (by first | exact .refl _ | exact .nilOwn _ _ | exact .nilSl _ | exact .ownSl _ _ _  | exact SV.le.of_eq (by simp)) (Slots.cons rfl (by first | exact .refl _ | exact .nilOwn _ _ | exact .nilSl _ | exact .ownSl _ _ _  | exact SV.le.of_eq (by simp)) (Slots.cons rfl (by first | exact .refl _ | exact .nilOwn _ _ | exact .nilSl _ | exact .ownSl _ _ _  | exact SV.le.of_eq (by simp)) (Slots.cons rfl (by first | exact .refl _ | exact .nilOwn _ _ | exact .nilSl _ | exact .ownSl _ _ _  | exact SV.le.of_eq (by simp)) (Slots.cons rfl (by first | exact .refl _ | exact .nilOwn _ _ | exact .nilSl _ | exact .ownSl _ _ _  | exact SV.le.of_eq (by simp)) (Slots.cons rfl (by first | exact .refl _ | exact .nilOwn _ _ | exact .nilSl _ | exact .ownSl _ _ _  | exact SV.le.of_eq (by simp)) (Slots.cons rfl (by first | exact .refl _ | exact .nilOwn _ _ | exact .nilSl _ | exact .ownSl _ _ _  | exact SV.le.of_eq (by simp)) (Slots.cons rfl (by first | exact .refl _ | exact .nilOwn _ _ | exact .nilSl _ | exact .ownSl _ _ _  | exact SV.le.of_eq (by simp)) (Slots.cons rfl (by first | exact .refl _ | exact .nilOwn _ _ | exact .nilSl _ | exact .ownSl _ _ _  | exact SV.le.of_eq (by simp)) (Slots.cons rfl (by first | exact .refl _ | exact .nilOwn _ _ | exact .nilSl _ | exact .ownSl _ _ _  | exact SV.le.of_eq (by simp)) (Slots.cons rfl (by first | exact .refl _ | exact .nilOwn _ _ | exact .nilSl _ | exact .ownSl _ _ _  | exact SV.le.of_eq (by simp)) Slots.nil))))))))))), (by rw [hfv]; first | (rw [if_pos hle]; exact List.Sublist.refl _) | (rw [if_neg hle]; exact List.Sublist.refl _))⟩, (by omega), ⟨k + 1, rfl, rfl, (by omega)⟩⟩
                ·
                  have hge : V.length ≤ k := by have := of_decide_eq_false hc5; simp at this; omega
                  have hkt : V.take k = V := List.take_of_length_le hge
                  rw [hkt]
                  refine awp_exit ?_
                  refine x_thenE ?_
                  refine x_thenE ?_
                  refine x_blockE ?_
                  refine x_then ?_
                  refine awp_seq ?_
                  refine awp_region ?_
                  refine r_move rfl rfl ?_
                  refine r_cmp rfl rfl rfl rfl ?_
                  refine r_move rfl rfl ?_
                  refine g_run rfl rfl rfl ?_
                  refine r_move rfl rfl ?_
                  refine g_run rfl rfl rfl ?_
                  first | (refine r_fieldb rfl TF.f71_1 TF.sz4 rfl ?_) | (refine r_fieldcp rfl TF.f71_1 TF.sz4 rfl ?_)
                  refine g_run rfl rfl rfl ?_
                  refine r_load1b 0 rfl rfl rfl TF.agg4 rfl ?_
                  refine g_run rfl rfl rfl ?_
                  refine r_bne rfl rfl TF.un4 rfl ?_
                  refine r_pickF rfl rfl rfl rfl ?_
                  refine r_move rfl rfl ?_
                  refine g_run rfl rfl (by show (!(W.is == (lastV m V).is)) = false; rw [hv1]; simp) ?_
                  first | (refine r_fieldb rfl TF.f67_1 TF.sz42 rfl ?_) | (refine r_fieldcp rfl TF.f67_1 TF.sz42 rfl ?_)
                  refine g_run rfl rfl (by show (!(W.is == (lastV m V).is)) = false; rw [hv1]; simp) ?_
                  refine r_load1b 1 rfl rfl rfl TF.agg42 rfl ?_
                  refine g_run rfl rfl (by show (!(W.is == (lastV m V).is)) = false; rw [hv1]; simp) ?_
                  refine r_convBS W.data rfl rfl TF.sl42 TF.un5 TF.un9 rfl ?_
                  refine g_run rfl rfl (by show (!(W.is == (lastV m V).is)) = false; rw [hv1]; simp) ?_
                  first | (refine r_fieldb rfl TF.f71_2 TF.sz42 rfl ?_) | (refine r_fieldcp rfl TF.f71_2 TF.sz42 rfl ?_)
                  refine g_run rfl rfl (by show (!(W.is == (lastV m V).is)) = false; rw [hv1]; simp) ?_
                  refine r_load1b 0 rfl rfl rfl TF.agg42 rfl ?_
                  refine g_run rfl rfl (by show (!(W.is == (lastV m V).is)) = false; rw [hv1]; simp) ?_
                  refine r_convBS (lastV m V).data rfl rfl TF.sl42 TF.un5 TF.un9 rfl ?_
                  refine g_run rfl rfl (by show (!(W.is == (lastV m V).is)) = false; rw [hv1]; simp) ?_
                  refine r_str2 rfl rfl rfl rfl ?_
                  refine r_pickF rfl (by show (!(W.is == (lastV m V).is)) = false; rw [hv1]; simp) rfl rfl ?_
                  refine awl_nil ?_
                  refine x_then ?_
                  refine awp_cond rfl (fun hc7 => ?_) (fun hc7 => ?_)
                  ·
                    exfalso; rw [hv2] at hc7; simp at hc7
                  ·
                    refine awp_skip ?_
                    refine x_block ?_
                    refine x_then ?_
                    refine awp_region ?_
                    refine r_move rfl rfl ?_
                    refine r_ari _ rfl rfl rfl (wrap_id (by first | omega | (simp; omega))) rfl ?_
                    refine r_assign rfl rfl ?_
                    refine awl_nil ?_
                    refine x_then ?_
                    refine ⟨ms.length - (i + 1), ⟨117, [(0, .a (numsA ms)), (1, .a (disksA ds)), (7, .a (strA s)), (8, .a (evsA E)), (9, .a (versA V)), (10, .a (.v (.int .i64 (((i + 1) : Int)))))], []⟩, ⟨rfl, (Slots.cons rfl (by first | exact .refl _ | exact .nilOwn _ _ | exact .nilSl _ | exact .ownSl _ _ _  | exact SV.le.of_eq (by simp)) (Slots.cons rfl (by first | exact .refl _ | exact .nilOwn _ _ | exact .nilSl _ | exact .ownSl _ _ _  | exact SV.le.of_eq (by simp)) (Slots.cons rfl (by first | exact .refl _ | exact .nilOwn _ _ | exact .nilSl _ | exact .ownSl _ _ _  | exact SV.le.of_eq (by simp)) (Slots.cons rfl (by first | exact .refl _ | exact .nilOwn _ _ | exact .nilSl _ | exact .ownSl _ _ _  | exact SV.le.of_eq (by simp)) (Slots.cons rfl (by first | exact .refl _ | exact .nilOwn _ _ | exact .nilSl _ | exact .ownSl _ _ _  | exact SV.le.of_eq (by simp)) (Slots.cons rfl (by first | exact .refl _ | exact .nilOwn _ _ | exact .nilSl _ | exact .ownSl _ _ _  | exact SV.le.of_eq (by simp)) Slots.nil)))))), (by first | exact List.Sublist.refl _ | exact .cons_cons _ (.cons _ (.refl _)) | exact List.nil_sublist _ | exact .cons _ (.refl _) | exact .cons _ (.cons _ (.refl _)) | exact .cons _ (.cons _ (.cons _ (.refl _))) | exact .cons _ (.cons _ (.cons _ (.cons _ (.refl _)))) | exact .cons_cons _ (List.nil_sublist _))⟩, (by omega), ⟨i + 1, rfl, rfl, (by omega)⟩⟩
          ·
            skip
            refine awp_exit ?_
            refine x_thenE ?_
            refine x_thenE ?_
            refine x_blockE ?_
            refine x_then ?_
            refine awp_seq ?_
            refine awp_region ?_
            refine r_assign rfl rfl ?_
            refine awl_nil ?_
            refine x_then ?_
            refine awp_ret ?_
            exact ⟨(.inl rfl), _, [], (.one (by first | exact .mk rfl rfl | exact .nil rfl)), ⟨rfl, rfl⟩, (List.nil_sublist _), (by simp)⟩

theorem past_law (ms : List Int) (ds : List Disk) (hok : ∀ d ∈ ds, OkD d) (x : Int) (h : (Lit.int .u8 x).wf = true) : AC Try.prog 10 [numsA ms, disksA ds, .v (.int .u8 x)] [] (fun r n => n = [] ∧ r = boolA true) := by
  obtain ⟨n, rfl, hn⟩ := u8_of h; exact past_walk ms ds hok n hn

end Go.Proofs.Ytmbfmnhcahhciaa.A

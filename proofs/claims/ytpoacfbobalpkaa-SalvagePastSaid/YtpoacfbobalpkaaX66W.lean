/- Layer 66: past.Of and past.Last, walked. -/
import Derived.Test.YtpoacfbobalpkaaProg
import Derived.KernelRfl
import Derived.Test.YtpoacfbobalpkaaX66O
import Derived.Test.YtpoacfbobalpkaaX66V
namespace Go.Proofs.Ytpoacfbobalpkaa.A
open Go Go.RowKit
set_option linter.unusedVariables false
set_option linter.unusedSimpArgs false
set_option maxRecDepth 100000

theorem T.f69_1 : fieldT Try.prog 69 1 = some (1, 4) := by kernel_rfl
theorem T.f69_2 : fieldT Try.prog 69 2 = some (2, 31) := by kernel_rfl
theorem T.pl69 : placesT Try.prog 69 = some [(0, 1), (1, 1), (2, 1)] := by kernel_rfl
theorem T.zero69 : ZeroT Try.prog 69 [.v (.int .u64 0), .v (.bool false), .sl 1 []] := ⟨[(.int .u64 0), (.bool false), (.slice none 0 0)], by kernel_rfl, (.cons (.refl _) (.cons (.refl _) (.cons (.nil 1) .nil)))⟩
theorem T.sz69 : szT Try.prog 69 = some 3 := by kernel_rfl
theorem T.sl63 : sliceT Try.prog 63 = some 69 := by kernel_rfl
theorem T.agg69 : aggT Try.prog 69 = some true := by kernel_rfl
theorem T.zraw69 : zeroT Try.prog 69 = some [(.int .u64 0), (.bool false), (.slice none 0 0)] := by kernel_rfl
theorem T.by69 : bytesT Try.prog 69 = some 40 := by kernel_rfl
theorem T.zlen69 : (zeroT Try.prog 69).map (·.length) = some 3 := by kernel_rfl
theorem T.en45 : entersT Try.prog 45 := enters_of Try.func45 (by kernel_rfl) (by kernel_rfl)

theorem findR_none {l : List File} {n : ByteArray} (h : l.find? (fun f => decide (f.name = n)) = none) : findR l n = .tup [File.av File.zero, boolA false] := by unfold findR; rw [h]
theorem findR_some {l : List File} {n : ByteArray} {f : File} (h : l.find? (fun f => decide (f.name = n)) = some f) : findR l n = .tup [File.av ⟨n, f.data⟩, boolA true] := by unfold findR; rw [h]

theorem alike_ok (v w : Ver) : AC Try.prog 45 [Ver.av v, Ver.av w] [] (fun r n => n = [] ∧ r = boolA (v.alike w)) := by
  refine ac_of_awp (rs := [4]) (nt := 17) Try.func45 rfl rfl rfl rfl (fun w0 C0 => ?_)
  refine awp_seq ?_
  refine awp_region ?_
  refine r_box rfl rfl rfl (fun b2 => ?_)
  refine r_box rfl rfl rfl (fun b3 => ?_)
  refine r_assign rfl rfl ?_
  refine awl_nil ?_
  refine x_then ?_
  refine awp_seq ?_
  refine awp_region ?_
  first | (refine r_fieldcp rfl T.f69_1 T.sz4 rfl ?_) | (refine r_fieldb rfl T.f69_1 T.sz4 rfl ?_)
  first | (refine r_load1 rfl T.agg4 rfl ?_) | (refine r_load1b 0 rfl rfl rfl T.agg4 rfl ?_) | (refine r_load1b 1 rfl rfl rfl T.agg4 rfl ?_)
  first | (refine r_fieldcp rfl T.f69_1 T.sz4 rfl ?_) | (refine r_fieldb rfl T.f69_1 T.sz4 rfl ?_)
  first | (refine r_load1 rfl T.agg4 rfl ?_) | (refine r_load1b 0 rfl rfl rfl T.agg4 rfl ?_) | (refine r_load1b 1 rfl rfl rfl T.agg4 rfl ?_)
  refine r_beq rfl rfl T.un4 rfl ?_
  refine r_move rfl rfl ?_
  refine g_cases (t' := 10) rfl (fun hg10 => ?_) (fun hg10 => ?_)
  ·
    refine g_run rfl rfl hg10 ?_
    first | (refine r_fieldcp rfl T.f69_2 T.sz31 rfl ?_) | (refine r_fieldb rfl T.f69_2 T.sz31 rfl ?_)
    refine g_run rfl rfl hg10 ?_
    first | (refine r_load1 rfl T.agg31 rfl ?_) | (refine r_load1b 0 rfl rfl rfl T.agg31 rfl ?_) | (refine r_load1b 1 rfl rfl rfl T.agg31 rfl ?_)
    refine g_run rfl rfl hg10 ?_
    first | (refine r_fieldcp rfl T.f69_2 T.sz31 rfl ?_) | (refine r_fieldb rfl T.f69_2 T.sz31 rfl ?_)
    refine g_run rfl rfl hg10 ?_
    first | (refine r_load1 rfl T.agg31 rfl ?_) | (refine r_load1b 0 rfl rfl rfl T.agg31 rfl ?_) | (refine r_load1b 1 rfl rfl rfl T.agg31 rfl ?_)
    refine g_run rfl rfl hg10 ?_
    refine r_call0 rfl rfl (.cons (.ev rfl rfl) (.cons (.ev rfl rfl) .nil)) (equal_ok v.data w.data) rfl T.en41 rfl (fun r hr => ?_)
    obtain rfl := hr
    refine r_pickT rfl hg10 rfl rfl ?_
    refine r_assign rfl rfl ?_
    refine awl_nil ?_
    refine x_then ?_
    refine awp_ret ?_
    exact ⟨(.inl rfl), _, [], (.one (by first | exact .mk rfl rfl | exact .nil rfl)), ⟨rfl, by rw [Ver.alike, hg10]; rfl⟩, (List.nil_sublist _), (by simp)⟩
  ·
    refine g_skip rfl rfl hg10 rfl ?_
    refine g_skip rfl rfl hg10 rfl ?_
    refine g_skip rfl rfl hg10 rfl ?_
    refine g_skip rfl rfl hg10 rfl ?_
    refine g_skip rfl rfl hg10 rfl ?_
    refine r_pickF rfl hg10 rfl rfl ?_
    refine r_assign rfl rfl ?_
    refine awl_nil ?_
    refine x_then ?_
    refine awp_ret ?_
    exact ⟨(.inl rfl), _, [], (.one (by first | exact .mk rfl rfl | exact .nil rfl)), ⟨rfl, by rw [Ver.alike, hg10]; rfl⟩, (List.nil_sublist _), (by simp)⟩

theorem of_ok (nums : List Int) (look : Int → Option (List File)) (n : ByteArray) (hnl : nums.length ≤ 100000) (hfs : ∀ m ∈ nums, ∀ fs, look m = some fs → fs.length ≤ 1000000 ∧ ∀ f ∈ fs, f.data.length ≤ 1000000)
    {fa : Nat} {ca : List AV} (hea : entersT Try.prog fa) (ha : ∀ m ∈ nums, AC Try.prog fa (.v (.int .u64 m) :: ca) [] (fun r n => n = [] ∧ r = atR (look m))) :
    AC Try.prog 25 [numsA nums, .fn fa ca, strA n] [] (fun r m => m = [] ∧ r = versA (versOf look n nums)) := by
  refine ac_of_awp (rs := [6]) (nt := 65) Try.func25 rfl rfl rfl rfl (fun w0 C0 => ?_)
  refine awp_seq ?_
  refine awp_region ?_
  refine r_assign rfl rfl ?_
  refine awl_nil ?_
  refine x_then ?_
  refine awp_seq ?_
  refine awp_seq ?_
  refine awp_region ?_
  refine r_move rfl rfl ?_
  first | (refine r_fn_eq rfl T.un28 rfl ?_) | (refine r_nofn_eq rfl T.un28 rfl ?_)
  refine awl_nil ?_
  refine x_then ?_
  refine awp_cond rfl (fun hc0 => ?_) (fun hc0 => ?_)
  ·
    exfalso; cases hc0
  ·
    refine awp_skip ?_
    refine x_then ?_
    refine awp_seq ?_
    refine awp_region ?_
    refine r_assign rfl rfl ?_
    refine awl_nil ?_
    refine x_then ?_
    refine awp_seq ?_
    refine awp_seq ?_
    refine awp_region ?_
    refine r_move rfl rfl ?_
    first | (refine r_lenS rfl rfl T.sl23 rfl ?_) | (refine r_lenNil rfl T.sl23 rfl ?_)
    refine r_move rfl rfl ?_
    refine awl_nil ?_
    refine x_then ?_
    refine awp_block ?_
    refine awp_loop (fun nn0 S => ∃ k : Nat, S = ⟨65, [(1, .a (.fn fa ca)), (2, .a (strA n)), (7, .own 7 3 (((nums.take k).foldl (stepV look n) []).map Ver.cs)), (17, .a (numsA nums)), (18, .a (.v (.int .i64 ((nums.map fun x => [AV.v (.int .u64 x)]).length)))), (19, .a (.v (.int .i64 ((k : Int)))))], []⟩ ∧ nn0 = nums.length - k ∧ (k ≤ nums.length)) (nums.length - (0)) ⟨65, [(1, .a (.fn fa ca)), (2, .a (strA n)), (7, .own 7 3 (((nums.take (0)).foldl (stepV look n) []).map Ver.cs)), (17, .a (numsA nums)), (18, .a (.v (.int .i64 ((nums.map fun x => [AV.v (.int .u64 x)]).length)))), (19, .a (.v (.int .i64 (((0) : Int)))))], []⟩ ⟨rfl, (Slots.cons rfl (by first | exact .refl _ | exact .nilOwn _ _ | exact .nilSl _ | exact .ownSl _ _ _ | exact SV.le.of_eq (by simp)) (Slots.cons rfl (by first | exact .refl _ | exact .nilOwn _ _ | exact .nilSl _ | exact .ownSl _ _ _ | exact SV.le.of_eq (by simp)) (Slots.cons rfl (by first | exact .refl _ | exact .nilOwn _ _ | exact .nilSl _ | exact .ownSl _ _ _ | exact SV.le.of_eq (by simp)) (Slots.cons rfl (by first | exact .refl _ | exact .nilOwn _ _ | exact .nilSl _ | exact .ownSl _ _ _ | exact SV.le.of_eq (by simp)) (Slots.cons rfl (by first | exact .refl _ | exact .nilOwn _ _ | exact .nilSl _ | exact .ownSl _ _ _ | exact SV.le.of_eq (by simp)) (Slots.cons rfl (by first | exact .refl _ | exact .nilOwn _ _ | exact .nilSl _ | exact .ownSl _ _ _ | exact SV.le.of_eq (by simp)) Slots.nil)))))), (by first | exact List.Sublist.refl _ | exact List.nil_sublist _ | exact .cons _ (.refl _) | exact .cons _ (.cons _ (.refl _)) | exact .cons _ (.cons _ (.cons _ (.refl _))) | exact .cons _ (.cons _ (.cons _ (.cons _ (.refl _)))) | exact .cons_cons _ (List.nil_sublist _))⟩ ⟨0, rfl, rfl, Nat.zero_le _⟩ ?_
    rintro nn0 _ ⟨k, rfl, rfl, hk⟩
    refine awp_seq ?_
    refine awp_region ?_
    refine r_cmp rfl rfl rfl rfl ?_
    refine awl_nil ?_
    refine x_then ?_
    refine awp_seq ?_
    refine awp_cond rfl (fun hc1 => ?_) (fun hc1 => ?_)
    ·
      have hlt : k < nums.length := by have := of_decide_eq_true hc1; simpa using this
      obtain ⟨x, hx⟩ := get_lt hlt
      have hol := vers_len look n (nums.take k) []
      rw [List.length_take, List.length_nil] at hol
      have e : ((nums.take (k + 1)).foldl (stepV look n) []) = stepV look n ((nums.take k).foldl (stepV look n) []) x := fold_take hx
      rw [stepV] at e
      refine awp_skip ?_
      refine x_then ?_
      refine awp_seq ?_
      refine awp_block ?_
      refine awp_seq ?_
      refine awp_region ?_
      refine r_index rfl rfl rfl T.sl23 T.sz30 (by omega) (get_map hx) rfl ?_
      refine r_load1 rfl T.agg30 rfl ?_
      refine r_assign rfl rfl ?_
      refine awl_nil ?_
      refine x_then ?_
      refine awp_seq ?_
      refine awp_region ?_
      refine r_move rfl rfl ?_
      refine r_move rfl rfl ?_
      refine r_call0 rfl rfl (.cons (.ev rfl rfl) .nil) (ha x (List.mem_of_getElem? hx)) rfl hea rfl (fun r hr => ?_)
      obtain rfl := hr
      rcases hlk : look x with _ | fs
      ·
        rw [hlk] at e
        have em : ((nums.take (k + 1)).foldl (stepV look n) []).map Ver.cs = ((nums.take k).foldl (stepV look n) []).map Ver.cs := by rw [e]
        refine r_move rfl rfl ?_
        refine r_extract rfl rfl rfl ?_
        refine r_extract rfl rfl rfl ?_
        refine r_assign rfl rfl ?_
        refine r_assign rfl rfl ?_
        refine awl_nil ?_
        refine x_then ?_
        refine awp_seq ?_
        refine awp_seq ?_
        refine awp_region ?_
        refine r_move rfl rfl ?_
        refine r_not rfl rfl ?_
        refine awl_nil ?_
        refine x_then ?_
        refine awp_condT rfl ?_
        refine awp_exit ?_
        refine x_thenE ?_
        refine x_blockE ?_
        refine x_then ?_
        refine awp_region ?_
        refine r_ari _ rfl rfl rfl (wrap_id (by omega)) rfl ?_
        refine r_move rfl rfl ?_
        refine awl_nil ?_
        refine x_then ?_
        refine ⟨nums.length - (k + 1), ⟨65, [(1, .a (.fn fa ca)), (2, .a (strA n)), (7, .own 7 3 (((nums.take (k + 1)).foldl (stepV look n) []).map Ver.cs)), (17, .a (numsA nums)), (18, .a (.v (.int .i64 ((nums.map fun x => [AV.v (.int .u64 x)]).length)))), (19, .a (.v (.int .i64 (((k + 1) : Int)))))], []⟩, ⟨rfl, (Slots.cons rfl (by first | exact .refl _ | exact .nilOwn _ _ | exact .nilSl _ | exact .ownSl _ _ _ | exact SV.le.of_eq (by rw [em] <;> rfl)) (Slots.cons rfl (by first | exact .refl _ | exact .nilOwn _ _ | exact .nilSl _ | exact .ownSl _ _ _ | exact SV.le.of_eq (by rw [em] <;> rfl)) (Slots.cons rfl (by first | exact .refl _ | exact .nilOwn _ _ | exact .nilSl _ | exact .ownSl _ _ _ | exact SV.le.of_eq (by rw [em] <;> rfl)) (Slots.cons rfl (by first | exact .refl _ | exact .nilOwn _ _ | exact .nilSl _ | exact .ownSl _ _ _ | exact SV.le.of_eq (by rw [em] <;> rfl)) (Slots.cons rfl (by first | exact .refl _ | exact .nilOwn _ _ | exact .nilSl _ | exact .ownSl _ _ _ | exact SV.le.of_eq (by rw [em] <;> rfl)) (Slots.cons rfl (by first | exact .refl _ | exact .nilOwn _ _ | exact .nilSl _ | exact .ownSl _ _ _ | exact SV.le.of_eq (by rw [em] <;> rfl)) Slots.nil)))))), (by first | exact List.Sublist.refl _ | exact List.nil_sublist _ | exact .cons _ (.refl _) | exact .cons _ (.cons _ (.refl _)) | exact .cons _ (.cons _ (.cons _ (.refl _))) | exact .cons _ (.cons _ (.cons _ (.cons _ (.refl _)))) | exact .cons_cons _ (List.nil_sublist _))⟩, (by omega), ⟨k + 1, rfl, rfl, (by have := (List.getElem?_eq_some_iff.1 hx).1; omega)⟩⟩
      ·
        rw [hlk] at e
        simp only at e
        obtain ⟨hfl, hfd⟩ := hfs x (List.mem_of_getElem? hx) fs hlk
        refine r_move rfl rfl ?_
        refine r_extract rfl rfl rfl ?_
        refine r_extract rfl rfl rfl ?_
        refine r_assign rfl rfl ?_
        refine r_assign rfl rfl ?_
        refine awl_nil ?_
        refine x_then ?_
        refine awp_seq ?_
        refine awp_seq ?_
        refine awp_region ?_
        refine r_move rfl rfl ?_
        refine r_not rfl rfl ?_
        refine awl_nil ?_
        refine x_then ?_
        refine awp_condF rfl ?_
        refine awp_skip ?_
        refine x_then ?_
        refine awp_seq ?_
        refine awp_region ?_
        refine r_move rfl rfl ?_
        refine r_build (parts := [(0, .tmp 31)]) rfl T.pl69 T.zero69 rfl rfl rfl ?_
        refine r_alloc T.zero69 rfl (fun b12 => ?_)
        refine r_store 0 rfl rfl rfl T.sz69 rfl rfl rfl ?_
        refine awl_nil ?_
        refine x_then ?_
        refine awp_seq ?_
        refine awp_seq ?_
        refine awp_region ?_
        refine r_move rfl rfl ?_
        refine r_move rfl rfl ?_
        refine r_call0 rfl rfl (.cons (.ev rfl rfl) (.cons (.ev rfl rfl) .nil)) (ffind_ok fs n hfl hfd) rfl T.en24 rfl (fun r hr => ?_)
        obtain rfl := hr
        rcases hf : fs.find? (fun f => decide (f.name = n)) with _ | f
        ·
          rw [findR_none hf]
          have hv : verAt fs n x = ⟨x, false, []⟩ := by unfold verAt; rw [hf]
          refine r_move rfl rfl ?_
          refine r_extract rfl rfl rfl ?_
          refine r_extract rfl rfl rfl ?_
          refine r_alloc T.zero50 rfl (fun b13 => ?_)
          first | (refine r_store 0 rfl rfl rfl T.sz50 rfl rfl rfl ?_) | (refine r_store 1 rfl rfl rfl T.sz50 rfl rfl rfl ?_)
          refine r_assign rfl rfl ?_
          refine awl_nil ?_
          refine x_then ?_
          refine awp_seq ?_
          refine awp_region ?_
          refine r_move rfl rfl ?_
          refine awl_nil ?_
          refine x_then ?_
          refine awp_condF rfl ?_
          refine awp_skip ?_
          refine x_then ?_
          refine awp_seq ?_
          rcases Bool.eq_false_or_eq_true (((((nums.take k).foldl (stepV look n) []).map Ver.cs).length : Int) == 0) with hg48 | hg48
          ·
            have hl0 : ((nums.take k).foldl (stepV look n) []) = [] := by have := eq_of_beq hg48; simp at this; exact List.eq_nil_of_length_eq_zero (by simpa using this)
            simp only [hl0, List.getLast?_nil] at e
            have em : ((nums.take (k + 1)).foldl (stepV look n) []).map Ver.cs = ((nums.take k).foldl (stepV look n) []).map Ver.cs ++ [Ver.cs ⟨x, false, []⟩] := by rw [e, hl0, hv]; rfl
            refine awp_drawS [45, 46, 47, 48, 49, 50, 51, 52, 53, 54, 55] [_, _, _, _, _, _, _, _, _, _, _] [] [] T.mixed rfl rfl rfl ⟨⟨⟨⟨⟨⟨⟨⟨⟨⟨⟨trivial
              , ⟨_, rfl, fun sl hd hr ho => by
                  refine r_move (hr 7 _ rfl rfl rfl) rfl ?_
                  exact awl_nil ⟨rfl, post_put⟩⟩⟩
              , ⟨_, rfl, fun sl hd hr ho => by
                  first | (refine r_lenS (hd 0 _ rfl rfl rfl) rfl T.sl63 rfl ?_) | (refine r_lenNil (hd 0 _ rfl rfl rfl) T.sl63 rfl ?_)
                  exact awl_nil ⟨rfl, post_put⟩⟩⟩
              , ⟨_, rfl, fun sl hd hr ho => by
                  refine r_cmp (hd 1 _ rfl rfl rfl) rfl rfl rfl ?_
                  exact awl_nil ⟨rfl, post_put⟩⟩⟩
              , ⟨_, rfl, fun sl hd hr ho => by
                  refine r_move (hd 2 _ rfl rfl rfl) rfl ?_
                  exact awl_nil ⟨rfl, post_put⟩⟩⟩
              , ⟨_, rfl, fun sl hd hr ho => by
                  refine g_skip rfl (hd 3 _ rfl rfl rfl) hg48 rfl ?_
                  exact awl_nil ⟨rfl, post_put⟩⟩⟩
              , ⟨_, rfl, fun sl hd hr ho => by
                  refine g_skip rfl (hd 3 _ rfl rfl rfl) hg48 rfl ?_
                  exact awl_nil ⟨rfl, post_put⟩⟩⟩
              , ⟨_, rfl, fun sl hd hr ho => by
                  refine g_skip rfl (hd 3 _ rfl rfl rfl) hg48 rfl ?_
                  exact awl_nil ⟨rfl, post_put⟩⟩⟩
              , ⟨_, rfl, fun sl hd hr ho => by
                  refine g_skip rfl (hd 3 _ rfl rfl rfl) hg48 rfl ?_
                  exact awl_nil ⟨rfl, post_put⟩⟩⟩
              , ⟨_, rfl, fun sl hd hr ho => by
                  refine g_skip rfl (hd 3 _ rfl rfl rfl) hg48 rfl ?_
                  exact awl_nil ⟨rfl, post_put⟩⟩⟩
              , ⟨_, rfl, fun sl hd hr ho => by
                  refine g_skip rfl (hd 3 _ rfl rfl rfl) hg48 rfl ?_
                  exact awl_nil ⟨rfl, post_put⟩⟩⟩
              , ⟨_, rfl, fun sl hd hr ho => by
                  refine g_skip rfl (hd 3 _ rfl rfl rfl) hg48 rfl ?_
                  exact awl_nil ⟨rfl, post_put⟩⟩⟩
              (by rfl) ?_
            refine g_skip rfl rfl hg48 rfl ?_
            refine g_skip rfl rfl hg48 rfl ?_
            refine r_pickT rfl hg48 rfl rfl ?_
            refine awl_nil ?_
            refine x_then ?_
            refine awp_condT rfl ?_
            refine awp_region ?_
            refine r_move rfl rfl ?_
            first | (refine r_loadA rfl T.agg69 T.sz69 rfl rfl ?_) | (refine r_loadAb 0 rfl rfl T.agg69 T.sz69 rfl rfl ?_) | (refine r_loadAb 1 rfl rfl T.agg69 T.sz69 rfl rfl ?_)
            refine r_lit 61 (parts := [(0, .tmp 60)]) rfl T.sl63 T.sz69 T.zraw69 rfl rfl rfl rfl rfl rfl rfl ?_
            refine r_append 7 rfl (by first | exact .own _ | exact .nil) rfl (by first | exact .sl _ | exact .own _ _ | exact .nil) T.sl63 T.sz69 (by decide) T.by69 T.zlen69 (by simp [chunks] <;> omega) (by simp [chunks] <;> omega) rfl ?_
            refine r_assign rfl rfl ?_
            refine awl_nil ?_
            refine x_block ?_
            refine x_then ?_
            refine awp_region ?_
            refine r_ari _ rfl rfl rfl (wrap_id (by omega)) rfl ?_
            refine r_move rfl rfl ?_
            refine awl_nil ?_
            refine x_then ?_
            refine ⟨nums.length - (k + 1), ⟨65, [(1, .a (.fn fa ca)), (2, .a (strA n)), (7, .own 7 3 (((nums.take (k + 1)).foldl (stepV look n) []).map Ver.cs)), (17, .a (numsA nums)), (18, .a (.v (.int .i64 ((nums.map fun x => [AV.v (.int .u64 x)]).length)))), (19, .a (.v (.int .i64 (((k + 1) : Int)))))], []⟩, ⟨rfl, (Slots.cons rfl (by first | exact .refl _ | exact .nilOwn _ _ | exact .nilSl _ | exact .ownSl _ _ _ | exact SV.le.of_eq (by rw [em] <;> rfl)) (Slots.cons rfl (by first | exact .refl _ | exact .nilOwn _ _ | exact .nilSl _ | exact .ownSl _ _ _ | exact SV.le.of_eq (by rw [em] <;> rfl)) (Slots.cons rfl (by first | exact .refl _ | exact .nilOwn _ _ | exact .nilSl _ | exact .ownSl _ _ _ | exact SV.le.of_eq (by rw [em] <;> rfl)) (Slots.cons rfl (by first | exact .refl _ | exact .nilOwn _ _ | exact .nilSl _ | exact .ownSl _ _ _ | exact SV.le.of_eq (by rw [em] <;> rfl)) (Slots.cons rfl (by first | exact .refl _ | exact .nilOwn _ _ | exact .nilSl _ | exact .ownSl _ _ _ | exact SV.le.of_eq (by rw [em] <;> rfl)) (Slots.cons rfl (by first | exact .refl _ | exact .nilOwn _ _ | exact .nilSl _ | exact .ownSl _ _ _ | exact SV.le.of_eq (by rw [em] <;> rfl)) Slots.nil)))))), (by first | exact List.Sublist.refl _ | exact List.nil_sublist _ | exact .cons _ (.refl _) | exact .cons _ (.cons _ (.refl _)) | exact .cons _ (.cons _ (.cons _ (.refl _))) | exact .cons _ (.cons _ (.cons _ (.cons _ (.refl _)))) | exact .cons_cons _ (List.nil_sublist _))⟩, (by omega), ⟨k + 1, rfl, rfl, (by have := (List.getElem?_eq_some_iff.1 hx).1; omega)⟩⟩
          ·
            have hl0 : 0 < ((nums.take k).foldl (stepV look n) []).length := by rcases Nat.eq_zero_or_pos ((nums.take k).foldl (stepV look n) []).length with h0 | h0; (rw [List.length_map, h0] at hg48; cases hg48); exact h0
            obtain ⟨w, hw⟩ : ∃ w, ((nums.take k).foldl (stepV look n) [])[((nums.take k).foldl (stepV look n) []).length - 1]? = some w := get_lt (by omega)
            have hlast : ((nums.take k).foldl (stepV look n) []).getLast? = some w := by rw [List.getLast?_eq_getElem?]; exact hw
            simp only [hlast] at e
            refine awp_drawS [45, 46, 47, 48, 49, 50, 51, 52, 53, 54, 55] [_, _, _, _, _, _, _, _, _, _, _] [] [] T.mixed rfl rfl rfl ⟨⟨⟨⟨⟨⟨⟨⟨⟨⟨⟨trivial
              , ⟨_, rfl, fun sl hd hr ho => by
                  refine r_move (hr 7 _ rfl rfl rfl) rfl ?_
                  exact awl_nil ⟨rfl, post_put⟩⟩⟩
              , ⟨_, rfl, fun sl hd hr ho => by
                  first | (refine r_lenS (hd 0 _ rfl rfl rfl) rfl T.sl63 rfl ?_) | (refine r_lenNil (hd 0 _ rfl rfl rfl) T.sl63 rfl ?_)
                  exact awl_nil ⟨rfl, post_put⟩⟩⟩
              , ⟨_, rfl, fun sl hd hr ho => by
                  refine r_cmp (hd 1 _ rfl rfl rfl) rfl rfl rfl ?_
                  exact awl_nil ⟨rfl, post_put⟩⟩⟩
              , ⟨_, rfl, fun sl hd hr ho => by
                  refine r_move (hd 2 _ rfl rfl rfl) rfl ?_
                  exact awl_nil ⟨rfl, post_put⟩⟩⟩
              , ⟨_, rfl, fun sl hd hr ho => by
                  refine g_run rfl (hd 3 _ rfl rfl rfl) hg48 ?_
                  refine r_move (hr 7 _ rfl rfl rfl) rfl ?_
                  exact awl_nil ⟨rfl, post_put⟩⟩⟩
              , ⟨_, rfl, fun sl hd hr ho => by
                  refine g_run rfl (hd 3 _ rfl rfl rfl) hg48 ?_
                  refine r_move (hr 7 _ rfl rfl rfl) rfl ?_
                  exact awl_nil ⟨rfl, post_put⟩⟩⟩
              , ⟨_, rfl, fun sl hd hr ho => by
                  refine g_run rfl (hd 3 _ rfl rfl rfl) hg48 ?_
                  first | (refine r_lenS (hd 5 _ rfl rfl rfl) rfl T.sl63 rfl ?_) | (refine r_lenNil (hd 5 _ rfl rfl rfl) T.sl63 rfl ?_)
                  exact awl_nil ⟨rfl, post_put⟩⟩⟩
              , ⟨_, rfl, fun sl hd hr ho => by
                  refine g_run rfl (hd 3 _ rfl rfl rfl) hg48 ?_
                  refine r_ari _ (hd 6 _ rfl rfl rfl) rfl rfl (wrap_id (by rw [List.length_map]; omega)) rfl ?_
                  exact awl_nil ⟨rfl, post_put⟩⟩⟩
              , ⟨_, rfl, fun sl hd hr ho => by
                  refine g_run rfl (hd 3 _ rfl rfl rfl) hg48 ?_
                  refine r_index (hd 4 _ rfl rfl rfl) rfl (hd 7 _ rfl rfl rfl) T.sl63 T.sz69 (by rw [List.length_map]; omega) (by rw [List.length_map, show ((((nums.take k).foldl (stepV look n) []).length : Int) - 1).toNat = ((nums.take k).foldl (stepV look n) []).length - 1 by omega]; exact get_map hw) rfl ?_
                  exact awl_nil ⟨rfl, post_put⟩⟩⟩
              , ⟨_, rfl, fun sl hd hr ho => by
                  refine g_run rfl (hd 3 _ rfl rfl rfl) hg48 ?_
                  first | (refine r_loadA (hd 8 _ rfl rfl rfl) T.agg69 T.sz69 rfl rfl ?_) | (refine r_loadAb 0 (hd 8 _ rfl rfl rfl) rfl T.agg69 T.sz69 rfl rfl ?_) | (refine r_loadAb 1 (hd 8 _ rfl rfl rfl) rfl T.agg69 T.sz69 rfl rfl ?_)
                  exact awl_nil ⟨rfl, post_put⟩⟩⟩
              , ⟨_, rfl, fun sl hd hr ho => by
                  refine g_run rfl (hd 3 _ rfl rfl rfl) hg48 ?_
                  first | (refine r_loadA (hr 12 _ rfl rfl rfl) T.agg69 T.sz69 rfl rfl ?_) | (refine r_loadAb 0 (hr 12 _ rfl rfl rfl) rfl T.agg69 T.sz69 rfl rfl ?_) | (refine r_loadAb 1 (hr 12 _ rfl rfl rfl) rfl T.agg69 T.sz69 rfl rfl ?_)
                  exact awl_nil ⟨rfl, post_put⟩⟩⟩
              (by rfl) ?_
            refine g_run rfl rfl hg48 ?_
            refine r_call0 rfl rfl (.cons (.ev rfl rfl) (.cons (.ev rfl rfl) .nil)) (alike_ok w ⟨x, false, []⟩) rfl T.en45 rfl (fun r hr => ?_)
            obtain rfl := hr
            refine g_run rfl rfl hg48 ?_
            refine r_not rfl rfl ?_
            refine r_pickF rfl hg48 rfl rfl ?_
            refine awl_nil ?_
            refine x_then ?_
            refine awp_cond rfl (fun hc4 => ?_) (fun hc4 => ?_)
            ·
              have ha : w.alike ⟨x, false, []⟩ = false := by cases h : w.alike ⟨x, false, []⟩ with | false => rfl | true => rw [h] at hc4; cases hc4
              rw [hv, ha, cond_false, ← hv] at e
              have em : ((nums.take (k + 1)).foldl (stepV look n) []).map Ver.cs = ((nums.take k).foldl (stepV look n) []).map Ver.cs ++ [Ver.cs ⟨x, false, []⟩] := by rw [e, hv, List.map_append]; rfl
              refine awp_region ?_
              refine r_move rfl rfl ?_
              first | (refine r_loadA rfl T.agg69 T.sz69 rfl rfl ?_) | (refine r_loadAb 0 rfl rfl T.agg69 T.sz69 rfl rfl ?_) | (refine r_loadAb 1 rfl rfl T.agg69 T.sz69 rfl rfl ?_)
              refine r_lit 61 (parts := [(0, .tmp 60)]) rfl T.sl63 T.sz69 T.zraw69 rfl rfl rfl rfl rfl rfl rfl ?_
              refine r_append 7 rfl (by first | exact .own _ | exact .nil) rfl (by first | exact .sl _ | exact .own _ _ | exact .nil) T.sl63 T.sz69 (by decide) T.by69 T.zlen69 (by simp [chunks] <;> omega) (by simp [chunks] <;> omega) rfl ?_
              refine r_assign rfl rfl ?_
              refine awl_nil ?_
              refine x_block ?_
              refine x_then ?_
              refine awp_region ?_
              refine r_ari _ rfl rfl rfl (wrap_id (by omega)) rfl ?_
              refine r_move rfl rfl ?_
              refine awl_nil ?_
              refine x_then ?_
              refine ⟨nums.length - (k + 1), ⟨65, [(1, .a (.fn fa ca)), (2, .a (strA n)), (7, .own 7 3 (((nums.take (k + 1)).foldl (stepV look n) []).map Ver.cs)), (17, .a (numsA nums)), (18, .a (.v (.int .i64 ((nums.map fun x => [AV.v (.int .u64 x)]).length)))), (19, .a (.v (.int .i64 (((k + 1) : Int)))))], []⟩, ⟨rfl, (Slots.cons rfl (by first | exact .refl _ | exact .nilOwn _ _ | exact .nilSl _ | exact .ownSl _ _ _ | exact SV.le.of_eq (by rw [em] <;> rfl)) (Slots.cons rfl (by first | exact .refl _ | exact .nilOwn _ _ | exact .nilSl _ | exact .ownSl _ _ _ | exact SV.le.of_eq (by rw [em] <;> rfl)) (Slots.cons rfl (by first | exact .refl _ | exact .nilOwn _ _ | exact .nilSl _ | exact .ownSl _ _ _ | exact SV.le.of_eq (by rw [em] <;> rfl)) (Slots.cons rfl (by first | exact .refl _ | exact .nilOwn _ _ | exact .nilSl _ | exact .ownSl _ _ _ | exact SV.le.of_eq (by rw [em] <;> rfl)) (Slots.cons rfl (by first | exact .refl _ | exact .nilOwn _ _ | exact .nilSl _ | exact .ownSl _ _ _ | exact SV.le.of_eq (by rw [em] <;> rfl)) (Slots.cons rfl (by first | exact .refl _ | exact .nilOwn _ _ | exact .nilSl _ | exact .ownSl _ _ _ | exact SV.le.of_eq (by rw [em] <;> rfl)) Slots.nil)))))), (by first | exact List.Sublist.refl _ | exact List.nil_sublist _ | exact .cons _ (.refl _) | exact .cons _ (.cons _ (.refl _)) | exact .cons _ (.cons _ (.cons _ (.refl _))) | exact .cons _ (.cons _ (.cons _ (.cons _ (.refl _)))) | exact .cons_cons _ (List.nil_sublist _))⟩, (by omega), ⟨k + 1, rfl, rfl, (by have := (List.getElem?_eq_some_iff.1 hx).1; omega)⟩⟩
            ·
              have ha : w.alike ⟨x, false, []⟩ = true := by cases h : w.alike ⟨x, false, []⟩ with | true => rfl | false => rw [h] at hc4; cases hc4
              rw [hv, ha, cond_true] at e
              have em : ((nums.take (k + 1)).foldl (stepV look n) []).map Ver.cs = ((nums.take k).foldl (stepV look n) []).map Ver.cs := by rw [e]
              refine awp_skip ?_
              refine x_block ?_
              refine x_then ?_
              refine awp_region ?_
              refine r_ari _ rfl rfl rfl (wrap_id (by omega)) rfl ?_
              refine r_move rfl rfl ?_
              refine awl_nil ?_
              refine x_then ?_
              refine ⟨nums.length - (k + 1), ⟨65, [(1, .a (.fn fa ca)), (2, .a (strA n)), (7, .own 7 3 (((nums.take (k + 1)).foldl (stepV look n) []).map Ver.cs)), (17, .a (numsA nums)), (18, .a (.v (.int .i64 ((nums.map fun x => [AV.v (.int .u64 x)]).length)))), (19, .a (.v (.int .i64 (((k + 1) : Int)))))], []⟩, ⟨rfl, (Slots.cons rfl (by first | exact .refl _ | exact .nilOwn _ _ | exact .nilSl _ | exact .ownSl _ _ _ | exact SV.le.of_eq (by rw [em] <;> rfl)) (Slots.cons rfl (by first | exact .refl _ | exact .nilOwn _ _ | exact .nilSl _ | exact .ownSl _ _ _ | exact SV.le.of_eq (by rw [em] <;> rfl)) (Slots.cons rfl (by first | exact .refl _ | exact .nilOwn _ _ | exact .nilSl _ | exact .ownSl _ _ _ | exact SV.le.of_eq (by rw [em] <;> rfl)) (Slots.cons rfl (by first | exact .refl _ | exact .nilOwn _ _ | exact .nilSl _ | exact .ownSl _ _ _ | exact SV.le.of_eq (by rw [em] <;> rfl)) (Slots.cons rfl (by first | exact .refl _ | exact .nilOwn _ _ | exact .nilSl _ | exact .ownSl _ _ _ | exact SV.le.of_eq (by rw [em] <;> rfl)) (Slots.cons rfl (by first | exact .refl _ | exact .nilOwn _ _ | exact .nilSl _ | exact .ownSl _ _ _ | exact SV.le.of_eq (by rw [em] <;> rfl)) Slots.nil)))))), (by first | exact List.Sublist.refl _ | exact List.nil_sublist _ | exact .cons _ (.refl _) | exact .cons _ (.cons _ (.refl _)) | exact .cons _ (.cons _ (.cons _ (.refl _))) | exact .cons _ (.cons _ (.cons _ (.cons _ (.refl _)))) | exact .cons_cons _ (List.nil_sublist _))⟩, (by omega), ⟨k + 1, rfl, rfl, (by have := (List.getElem?_eq_some_iff.1 hx).1; omega)⟩⟩
        ·
          have hfd1 := hfd f (List.mem_of_find?_eq_some hf)
          rw [findR_some hf]
          have hv : verAt fs n x = ⟨x, true, f.data⟩ := by unfold verAt; rw [hf]
          refine r_move rfl rfl ?_
          refine r_extract rfl rfl rfl ?_
          refine r_extract rfl rfl rfl ?_
          refine r_alloc T.zero50 rfl (fun b13 => ?_)
          first | (refine r_store 0 rfl rfl rfl T.sz50 rfl rfl rfl ?_) | (refine r_store 1 rfl rfl rfl T.sz50 rfl rfl rfl ?_)
          refine r_assign rfl rfl ?_
          refine awl_nil ?_
          refine x_then ?_
          refine awp_seq ?_
          refine awp_region ?_
          refine r_move rfl rfl ?_
          refine awl_nil ?_
          refine x_then ?_
          refine awp_condT rfl ?_
          refine awp_region ?_
          first | (refine r_fieldcp rfl T.f50_1 T.sz31 rfl ?_) | (refine r_fieldb rfl T.f50_1 T.sz31 rfl ?_)
          first | (refine r_load1 rfl T.agg31 rfl ?_) | (refine r_load1b 0 rfl rfl rfl T.agg31 rfl ?_) | (refine r_load1b 1 rfl rfl rfl T.agg31 rfl ?_)
          refine r_call0 rfl rfl (.cons (.ev rfl rfl) .nil) (clone_ok f.data hfd1) rfl T.en30 rfl (fun r hr => ?_)
          obtain rfl := hr
          first | (refine r_fieldcp rfl T.f69_1 T.sz4 rfl ?_) | (refine r_fieldb rfl T.f69_1 T.sz4 rfl ?_)
          first | (refine r_store 0 rfl rfl rfl T.sz4 rfl rfl rfl ?_) | (refine r_store 1 rfl rfl rfl T.sz4 rfl rfl rfl ?_)
          first | (refine r_fieldcp rfl T.f69_2 T.sz31 rfl ?_) | (refine r_fieldb rfl T.f69_2 T.sz31 rfl ?_)
          first | (refine r_store 0 rfl rfl rfl T.sz31 rfl rfl rfl ?_) | (refine r_store 1 rfl rfl rfl T.sz31 rfl rfl rfl ?_)
          refine awl_nil ?_
          refine x_then ?_
          refine awp_seq ?_
          rcases Bool.eq_false_or_eq_true (((((nums.take k).foldl (stepV look n) []).map Ver.cs).length : Int) == 0) with hg48 | hg48
          ·
            have hl0 : ((nums.take k).foldl (stepV look n) []) = [] := by have := eq_of_beq hg48; simp at this; exact List.eq_nil_of_length_eq_zero (by simpa using this)
            simp only [hl0, List.getLast?_nil] at e
            have em : ((nums.take (k + 1)).foldl (stepV look n) []).map Ver.cs = ((nums.take k).foldl (stepV look n) []).map Ver.cs ++ [Ver.cs ⟨x, true, f.data⟩] := by rw [e, hl0, hv]; rfl
            refine awp_drawS [45, 46, 47, 48, 49, 50, 51, 52, 53, 54, 55] [_, _, _, _, _, _, _, _, _, _, _] [] [] T.mixed rfl rfl rfl ⟨⟨⟨⟨⟨⟨⟨⟨⟨⟨⟨trivial
              , ⟨_, rfl, fun sl hd hr ho => by
                  refine r_move (hr 7 _ rfl rfl rfl) rfl ?_
                  exact awl_nil ⟨rfl, post_put⟩⟩⟩
              , ⟨_, rfl, fun sl hd hr ho => by
                  first | (refine r_lenS (hd 0 _ rfl rfl rfl) rfl T.sl63 rfl ?_) | (refine r_lenNil (hd 0 _ rfl rfl rfl) T.sl63 rfl ?_)
                  exact awl_nil ⟨rfl, post_put⟩⟩⟩
              , ⟨_, rfl, fun sl hd hr ho => by
                  refine r_cmp (hd 1 _ rfl rfl rfl) rfl rfl rfl ?_
                  exact awl_nil ⟨rfl, post_put⟩⟩⟩
              , ⟨_, rfl, fun sl hd hr ho => by
                  refine r_move (hd 2 _ rfl rfl rfl) rfl ?_
                  exact awl_nil ⟨rfl, post_put⟩⟩⟩
              , ⟨_, rfl, fun sl hd hr ho => by
                  refine g_skip rfl (hd 3 _ rfl rfl rfl) hg48 rfl ?_
                  exact awl_nil ⟨rfl, post_put⟩⟩⟩
              , ⟨_, rfl, fun sl hd hr ho => by
                  refine g_skip rfl (hd 3 _ rfl rfl rfl) hg48 rfl ?_
                  exact awl_nil ⟨rfl, post_put⟩⟩⟩
              , ⟨_, rfl, fun sl hd hr ho => by
                  refine g_skip rfl (hd 3 _ rfl rfl rfl) hg48 rfl ?_
                  exact awl_nil ⟨rfl, post_put⟩⟩⟩
              , ⟨_, rfl, fun sl hd hr ho => by
                  refine g_skip rfl (hd 3 _ rfl rfl rfl) hg48 rfl ?_
                  exact awl_nil ⟨rfl, post_put⟩⟩⟩
              , ⟨_, rfl, fun sl hd hr ho => by
                  refine g_skip rfl (hd 3 _ rfl rfl rfl) hg48 rfl ?_
                  exact awl_nil ⟨rfl, post_put⟩⟩⟩
              , ⟨_, rfl, fun sl hd hr ho => by
                  refine g_skip rfl (hd 3 _ rfl rfl rfl) hg48 rfl ?_
                  exact awl_nil ⟨rfl, post_put⟩⟩⟩
              , ⟨_, rfl, fun sl hd hr ho => by
                  refine g_skip rfl (hd 3 _ rfl rfl rfl) hg48 rfl ?_
                  exact awl_nil ⟨rfl, post_put⟩⟩⟩
              (by rfl) ?_
            refine g_skip rfl rfl hg48 rfl ?_
            refine g_skip rfl rfl hg48 rfl ?_
            refine r_pickT rfl hg48 rfl rfl ?_
            refine awl_nil ?_
            refine x_then ?_
            refine awp_condT rfl ?_
            refine awp_region ?_
            refine r_move rfl rfl ?_
            first | (refine r_loadA rfl T.agg69 T.sz69 rfl rfl ?_) | (refine r_loadAb 0 rfl rfl T.agg69 T.sz69 rfl rfl ?_) | (refine r_loadAb 1 rfl rfl T.agg69 T.sz69 rfl rfl ?_)
            refine r_lit 61 (parts := [(0, .tmp 60)]) rfl T.sl63 T.sz69 T.zraw69 rfl rfl rfl rfl rfl rfl rfl ?_
            refine r_append 7 rfl (by first | exact .own _ | exact .nil) rfl (by first | exact .sl _ | exact .own _ _ | exact .nil) T.sl63 T.sz69 (by decide) T.by69 T.zlen69 (by simp [chunks] <;> omega) (by simp [chunks] <;> omega) rfl ?_
            refine r_assign rfl rfl ?_
            refine awl_nil ?_
            refine x_block ?_
            refine x_then ?_
            refine awp_region ?_
            refine r_ari _ rfl rfl rfl (wrap_id (by omega)) rfl ?_
            refine r_move rfl rfl ?_
            refine awl_nil ?_
            refine x_then ?_
            refine ⟨nums.length - (k + 1), ⟨65, [(1, .a (.fn fa ca)), (2, .a (strA n)), (7, .own 7 3 (((nums.take (k + 1)).foldl (stepV look n) []).map Ver.cs)), (17, .a (numsA nums)), (18, .a (.v (.int .i64 ((nums.map fun x => [AV.v (.int .u64 x)]).length)))), (19, .a (.v (.int .i64 (((k + 1) : Int)))))], []⟩, ⟨rfl, (Slots.cons rfl (by first | exact .refl _ | exact .nilOwn _ _ | exact .nilSl _ | exact .ownSl _ _ _ | exact SV.le.of_eq (by rw [em] <;> rfl)) (Slots.cons rfl (by first | exact .refl _ | exact .nilOwn _ _ | exact .nilSl _ | exact .ownSl _ _ _ | exact SV.le.of_eq (by rw [em] <;> rfl)) (Slots.cons rfl (by first | exact .refl _ | exact .nilOwn _ _ | exact .nilSl _ | exact .ownSl _ _ _ | exact SV.le.of_eq (by rw [em] <;> rfl)) (Slots.cons rfl (by first | exact .refl _ | exact .nilOwn _ _ | exact .nilSl _ | exact .ownSl _ _ _ | exact SV.le.of_eq (by rw [em] <;> rfl)) (Slots.cons rfl (by first | exact .refl _ | exact .nilOwn _ _ | exact .nilSl _ | exact .ownSl _ _ _ | exact SV.le.of_eq (by rw [em] <;> rfl)) (Slots.cons rfl (by first | exact .refl _ | exact .nilOwn _ _ | exact .nilSl _ | exact .ownSl _ _ _ | exact SV.le.of_eq (by rw [em] <;> rfl)) Slots.nil)))))), (by first | exact List.Sublist.refl _ | exact List.nil_sublist _ | exact .cons _ (.refl _) | exact .cons _ (.cons _ (.refl _)) | exact .cons _ (.cons _ (.cons _ (.refl _))) | exact .cons _ (.cons _ (.cons _ (.cons _ (.refl _)))) | exact .cons_cons _ (List.nil_sublist _))⟩, (by omega), ⟨k + 1, rfl, rfl, (by have := (List.getElem?_eq_some_iff.1 hx).1; omega)⟩⟩
          ·
            have hl0 : 0 < ((nums.take k).foldl (stepV look n) []).length := by rcases Nat.eq_zero_or_pos ((nums.take k).foldl (stepV look n) []).length with h0 | h0; (rw [List.length_map, h0] at hg48; cases hg48); exact h0
            obtain ⟨w, hw⟩ : ∃ w, ((nums.take k).foldl (stepV look n) [])[((nums.take k).foldl (stepV look n) []).length - 1]? = some w := get_lt (by omega)
            have hlast : ((nums.take k).foldl (stepV look n) []).getLast? = some w := by rw [List.getLast?_eq_getElem?]; exact hw
            simp only [hlast] at e
            refine awp_drawS [45, 46, 47, 48, 49, 50, 51, 52, 53, 54, 55] [_, _, _, _, _, _, _, _, _, _, _] [] [] T.mixed rfl rfl rfl ⟨⟨⟨⟨⟨⟨⟨⟨⟨⟨⟨trivial
              , ⟨_, rfl, fun sl hd hr ho => by
                  refine r_move (hr 7 _ rfl rfl rfl) rfl ?_
                  exact awl_nil ⟨rfl, post_put⟩⟩⟩
              , ⟨_, rfl, fun sl hd hr ho => by
                  first | (refine r_lenS (hd 0 _ rfl rfl rfl) rfl T.sl63 rfl ?_) | (refine r_lenNil (hd 0 _ rfl rfl rfl) T.sl63 rfl ?_)
                  exact awl_nil ⟨rfl, post_put⟩⟩⟩
              , ⟨_, rfl, fun sl hd hr ho => by
                  refine r_cmp (hd 1 _ rfl rfl rfl) rfl rfl rfl ?_
                  exact awl_nil ⟨rfl, post_put⟩⟩⟩
              , ⟨_, rfl, fun sl hd hr ho => by
                  refine r_move (hd 2 _ rfl rfl rfl) rfl ?_
                  exact awl_nil ⟨rfl, post_put⟩⟩⟩
              , ⟨_, rfl, fun sl hd hr ho => by
                  refine g_run rfl (hd 3 _ rfl rfl rfl) hg48 ?_
                  refine r_move (hr 7 _ rfl rfl rfl) rfl ?_
                  exact awl_nil ⟨rfl, post_put⟩⟩⟩
              , ⟨_, rfl, fun sl hd hr ho => by
                  refine g_run rfl (hd 3 _ rfl rfl rfl) hg48 ?_
                  refine r_move (hr 7 _ rfl rfl rfl) rfl ?_
                  exact awl_nil ⟨rfl, post_put⟩⟩⟩
              , ⟨_, rfl, fun sl hd hr ho => by
                  refine g_run rfl (hd 3 _ rfl rfl rfl) hg48 ?_
                  first | (refine r_lenS (hd 5 _ rfl rfl rfl) rfl T.sl63 rfl ?_) | (refine r_lenNil (hd 5 _ rfl rfl rfl) T.sl63 rfl ?_)
                  exact awl_nil ⟨rfl, post_put⟩⟩⟩
              , ⟨_, rfl, fun sl hd hr ho => by
                  refine g_run rfl (hd 3 _ rfl rfl rfl) hg48 ?_
                  refine r_ari _ (hd 6 _ rfl rfl rfl) rfl rfl (wrap_id (by rw [List.length_map]; omega)) rfl ?_
                  exact awl_nil ⟨rfl, post_put⟩⟩⟩
              , ⟨_, rfl, fun sl hd hr ho => by
                  refine g_run rfl (hd 3 _ rfl rfl rfl) hg48 ?_
                  refine r_index (hd 4 _ rfl rfl rfl) rfl (hd 7 _ rfl rfl rfl) T.sl63 T.sz69 (by rw [List.length_map]; omega) (by rw [List.length_map, show ((((nums.take k).foldl (stepV look n) []).length : Int) - 1).toNat = ((nums.take k).foldl (stepV look n) []).length - 1 by omega]; exact get_map hw) rfl ?_
                  exact awl_nil ⟨rfl, post_put⟩⟩⟩
              , ⟨_, rfl, fun sl hd hr ho => by
                  refine g_run rfl (hd 3 _ rfl rfl rfl) hg48 ?_
                  first | (refine r_loadA (hd 8 _ rfl rfl rfl) T.agg69 T.sz69 rfl rfl ?_) | (refine r_loadAb 0 (hd 8 _ rfl rfl rfl) rfl T.agg69 T.sz69 rfl rfl ?_) | (refine r_loadAb 1 (hd 8 _ rfl rfl rfl) rfl T.agg69 T.sz69 rfl rfl ?_)
                  exact awl_nil ⟨rfl, post_put⟩⟩⟩
              , ⟨_, rfl, fun sl hd hr ho => by
                  refine g_run rfl (hd 3 _ rfl rfl rfl) hg48 ?_
                  first | (refine r_loadA (hr 12 _ rfl rfl rfl) T.agg69 T.sz69 rfl rfl ?_) | (refine r_loadAb 0 (hr 12 _ rfl rfl rfl) rfl T.agg69 T.sz69 rfl rfl ?_) | (refine r_loadAb 1 (hr 12 _ rfl rfl rfl) rfl T.agg69 T.sz69 rfl rfl ?_)
                  exact awl_nil ⟨rfl, post_put⟩⟩⟩
              (by rfl) ?_
            refine g_run rfl rfl hg48 ?_
            refine r_call0 rfl rfl (.cons (.ev rfl rfl) (.cons (.ev rfl rfl) .nil)) (alike_ok w ⟨x, true, f.data⟩) rfl T.en45 rfl (fun r hr => ?_)
            obtain rfl := hr
            refine g_run rfl rfl hg48 ?_
            refine r_not rfl rfl ?_
            refine r_pickF rfl hg48 rfl rfl ?_
            refine awl_nil ?_
            refine x_then ?_
            refine awp_cond rfl (fun hc4 => ?_) (fun hc4 => ?_)
            ·
              have ha : w.alike ⟨x, true, f.data⟩ = false := by cases h : w.alike ⟨x, true, f.data⟩ with | false => rfl | true => rw [h] at hc4; cases hc4
              rw [hv, ha, cond_false, ← hv] at e
              have em : ((nums.take (k + 1)).foldl (stepV look n) []).map Ver.cs = ((nums.take k).foldl (stepV look n) []).map Ver.cs ++ [Ver.cs ⟨x, true, f.data⟩] := by rw [e, hv, List.map_append]; rfl
              refine awp_region ?_
              refine r_move rfl rfl ?_
              first | (refine r_loadA rfl T.agg69 T.sz69 rfl rfl ?_) | (refine r_loadAb 0 rfl rfl T.agg69 T.sz69 rfl rfl ?_) | (refine r_loadAb 1 rfl rfl T.agg69 T.sz69 rfl rfl ?_)
              refine r_lit 61 (parts := [(0, .tmp 60)]) rfl T.sl63 T.sz69 T.zraw69 rfl rfl rfl rfl rfl rfl rfl ?_
              refine r_append 7 rfl (by first | exact .own _ | exact .nil) rfl (by first | exact .sl _ | exact .own _ _ | exact .nil) T.sl63 T.sz69 (by decide) T.by69 T.zlen69 (by simp [chunks] <;> omega) (by simp [chunks] <;> omega) rfl ?_
              refine r_assign rfl rfl ?_
              refine awl_nil ?_
              refine x_block ?_
              refine x_then ?_
              refine awp_region ?_
              refine r_ari _ rfl rfl rfl (wrap_id (by omega)) rfl ?_
              refine r_move rfl rfl ?_
              refine awl_nil ?_
              refine x_then ?_
              refine ⟨nums.length - (k + 1), ⟨65, [(1, .a (.fn fa ca)), (2, .a (strA n)), (7, .own 7 3 (((nums.take (k + 1)).foldl (stepV look n) []).map Ver.cs)), (17, .a (numsA nums)), (18, .a (.v (.int .i64 ((nums.map fun x => [AV.v (.int .u64 x)]).length)))), (19, .a (.v (.int .i64 (((k + 1) : Int)))))], []⟩, ⟨rfl, (Slots.cons rfl (by first | exact .refl _ | exact .nilOwn _ _ | exact .nilSl _ | exact .ownSl _ _ _ | exact SV.le.of_eq (by rw [em] <;> rfl)) (Slots.cons rfl (by first | exact .refl _ | exact .nilOwn _ _ | exact .nilSl _ | exact .ownSl _ _ _ | exact SV.le.of_eq (by rw [em] <;> rfl)) (Slots.cons rfl (by first | exact .refl _ | exact .nilOwn _ _ | exact .nilSl _ | exact .ownSl _ _ _ | exact SV.le.of_eq (by rw [em] <;> rfl)) (Slots.cons rfl (by first | exact .refl _ | exact .nilOwn _ _ | exact .nilSl _ | exact .ownSl _ _ _ | exact SV.le.of_eq (by rw [em] <;> rfl)) (Slots.cons rfl (by first | exact .refl _ | exact .nilOwn _ _ | exact .nilSl _ | exact .ownSl _ _ _ | exact SV.le.of_eq (by rw [em] <;> rfl)) (Slots.cons rfl (by first | exact .refl _ | exact .nilOwn _ _ | exact .nilSl _ | exact .ownSl _ _ _ | exact SV.le.of_eq (by rw [em] <;> rfl)) Slots.nil)))))), (by first | exact List.Sublist.refl _ | exact List.nil_sublist _ | exact .cons _ (.refl _) | exact .cons _ (.cons _ (.refl _)) | exact .cons _ (.cons _ (.cons _ (.refl _))) | exact .cons _ (.cons _ (.cons _ (.cons _ (.refl _)))) | exact .cons_cons _ (List.nil_sublist _))⟩, (by omega), ⟨k + 1, rfl, rfl, (by have := (List.getElem?_eq_some_iff.1 hx).1; omega)⟩⟩
            ·
              have ha : w.alike ⟨x, true, f.data⟩ = true := by cases h : w.alike ⟨x, true, f.data⟩ with | true => rfl | false => rw [h] at hc4; cases hc4
              rw [hv, ha, cond_true] at e
              have em : ((nums.take (k + 1)).foldl (stepV look n) []).map Ver.cs = ((nums.take k).foldl (stepV look n) []).map Ver.cs := by rw [e]
              refine awp_skip ?_
              refine x_block ?_
              refine x_then ?_
              refine awp_region ?_
              refine r_ari _ rfl rfl rfl (wrap_id (by omega)) rfl ?_
              refine r_move rfl rfl ?_
              refine awl_nil ?_
              refine x_then ?_
              refine ⟨nums.length - (k + 1), ⟨65, [(1, .a (.fn fa ca)), (2, .a (strA n)), (7, .own 7 3 (((nums.take (k + 1)).foldl (stepV look n) []).map Ver.cs)), (17, .a (numsA nums)), (18, .a (.v (.int .i64 ((nums.map fun x => [AV.v (.int .u64 x)]).length)))), (19, .a (.v (.int .i64 (((k + 1) : Int)))))], []⟩, ⟨rfl, (Slots.cons rfl (by first | exact .refl _ | exact .nilOwn _ _ | exact .nilSl _ | exact .ownSl _ _ _ | exact SV.le.of_eq (by rw [em] <;> rfl)) (Slots.cons rfl (by first | exact .refl _ | exact .nilOwn _ _ | exact .nilSl _ | exact .ownSl _ _ _ | exact SV.le.of_eq (by rw [em] <;> rfl)) (Slots.cons rfl (by first | exact .refl _ | exact .nilOwn _ _ | exact .nilSl _ | exact .ownSl _ _ _ | exact SV.le.of_eq (by rw [em] <;> rfl)) (Slots.cons rfl (by first | exact .refl _ | exact .nilOwn _ _ | exact .nilSl _ | exact .ownSl _ _ _ | exact SV.le.of_eq (by rw [em] <;> rfl)) (Slots.cons rfl (by first | exact .refl _ | exact .nilOwn _ _ | exact .nilSl _ | exact .ownSl _ _ _ | exact SV.le.of_eq (by rw [em] <;> rfl)) (Slots.cons rfl (by first | exact .refl _ | exact .nilOwn _ _ | exact .nilSl _ | exact .ownSl _ _ _ | exact SV.le.of_eq (by rw [em] <;> rfl)) Slots.nil)))))), (by first | exact List.Sublist.refl _ | exact List.nil_sublist _ | exact .cons _ (.refl _) | exact .cons _ (.cons _ (.refl _)) | exact .cons _ (.cons _ (.cons _ (.refl _))) | exact .cons _ (.cons _ (.cons _ (.cons _ (.refl _)))) | exact .cons_cons _ (List.nil_sublist _))⟩, (by omega), ⟨k + 1, rfl, rfl, (by have := (List.getElem?_eq_some_iff.1 hx).1; omega)⟩⟩
    ·
      have hge : nums.length ≤ k := by have := of_decide_eq_false hc1; simp at this; omega
      have hkl : nums.take k = nums := List.take_of_length_le hge
      refine awp_exit ?_
      refine x_thenE ?_
      refine x_thenE ?_
      refine x_blockE ?_
      refine x_then ?_
      refine awp_seq ?_
      refine awp_region ?_
      refine r_move rfl rfl ?_
      refine r_assign rfl rfl ?_
      refine awl_nil ?_
      refine x_then ?_
      refine awp_ret ?_
      exact ⟨(.inl rfl), _, [], (.one (by first | exact .mk rfl rfl | exact .nil rfl)), ⟨rfl, by rw [hkl]; rfl⟩, (List.nil_sublist _), (by simp)⟩

end Go.Proofs.Ytpoacfbobalpkaa.A

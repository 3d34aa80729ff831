/- Layer 63: TimelineStill, walked. -/
import Derived.Test.YtmbfmnhcahhciaaProg
import Derived.KernelRfl
import Derived.Test.YtmbfmnhcahhciaaX63E
import Derived.Test.YtmbfmnhcahhciaaX63W
namespace Go.Proofs.Ytmbfmnhcahhciaa.A
open Go Go.RowKit
set_option linter.unusedVariables false
set_option linter.unusedSimpArgs false
set_option maxRecDepth 100000

theorem TF.by38 : bytesT Try.prog 38 = some 9 := by kernel_rfl
theorem TF.zlen38 : (zeroT Try.prog 38).map (·.length) = some 9 := by kernel_rfl

theorem atcV_ok (ms : List Int) (ds : List Disk) (hml : ms.length ≤ 1000000) (hok : ∀ d ∈ ds, OkD d) (m : Int) {g cap : Nat} {ext : List AV} {fl : Bool} : AC Try.prog 30 [.v (.int .u64 m), .cp [numsA ms], .cp [.v (.slice (some ⟨g, 0, none⟩) ds.length cap)]] [⟨g, fl, .box ((ds.map Disk.cs).flatten ++ ext)⟩] (fun r n => n = [] ∧ r = .tup [files (atF ms ds m).1, boolA (atF ms ds m).2]) := by
  refine ac_of_awp (rs := [4, 5]) (nt := 35) Try.func30 rfl rfl rfl rfl (fun w0 C0 hq => ?_)
  refine awp_seq ?_
  refine awp_region ?_
  refine r_assign rfl rfl ?_
  first | refine awl_imp (imp_le 4 (x := .a (files [])) rfl (.nilSl _)) ?_ | skip
  refine r_assign rfl rfl ?_
  refine awl_nil ?_
  refine x_then ?_
  refine awp_seq ?_
  refine awp_seq ?_
  refine awp_region ?_
  refine r_assign rfl rfl ?_
  refine awl_nil ?_
  refine x_then ?_
  refine awp_block ?_
  refine awp_loop (fun nn0 S => ∃ k : Nat, S = ⟨35, [(0, .a (.v (.int .u64 (m)))), (1, .a (.cp [numsA ms])), (2, .a (.cp [.v (.slice (some ⟨g, 0, none⟩) ds.length cap)])), (6, .a (.v (.int .i64 ((k : Int)))))], [⟨g, false, .box ((ds.map Disk.cs).flatten ++ ext)⟩]⟩ ∧ nn0 = ms.length - k ∧ (k ≤ ms.length) ∧ (((ms.zip ds).take k).findIdx? (fun p => p.1 == m) = none)) (ms.length - (0)) ⟨35, [(0, .a (.v (.int .u64 (m)))), (1, .a (.cp [numsA ms])), (2, .a (.cp [.v (.slice (some ⟨g, 0, none⟩) ds.length cap)])), (6, .a (.v (.int .i64 (((0) : Int)))))], [⟨g, false, .box ((ds.map Disk.cs).flatten ++ ext)⟩]⟩ ⟨rfl, (Slots.cons rfl (by first | exact .refl _ | exact .nilOwn _ _ | exact .nilSl _ | exact .ownSl _ _ _  | exact SV.le.of_eq (by simp)) (Slots.cons rfl (by first | exact .refl _ | exact .nilOwn _ _ | exact .nilSl _ | exact .ownSl _ _ _  | exact SV.le.of_eq (by simp)) (Slots.cons rfl (by first | exact .refl _ | exact .nilOwn _ _ | exact .nilSl _ | exact .ownSl _ _ _  | exact SV.le.of_eq (by simp)) (Slots.cons rfl (by first | exact .refl _ | exact .nilOwn _ _ | exact .nilSl _ | exact .ownSl _ _ _  | exact SV.le.of_eq (by simp)) Slots.nil)))), (by first | exact List.Sublist.refl _ | exact .cons_cons _ (.cons _ (.refl _)) | exact List.nil_sublist _ | exact .cons _ (.refl _) | exact .cons _ (.cons _ (.refl _)) | exact .cons _ (.cons _ (.cons _ (.refl _))) | exact .cons _ (.cons _ (.cons _ (.cons _ (.refl _)))) | exact .cons_cons _ (List.nil_sublist _))⟩ ⟨0, rfl, rfl, Nat.zero_le _, rfl⟩ ?_
  rintro nn0 _ ⟨k, rfl, rfl, hk, hno⟩
  refine awp_seq ?_
  refine awp_seq ?_
  refine awp_region ?_
  refine r_move rfl rfl ?_
  first | (refine r_load1 rfl TF.agg22 rfl ?_) | (refine r_load1b 0 rfl rfl rfl TF.agg22 rfl ?_)
  first | (refine r_lenS rfl rfl TF.sl22 rfl ?_) | (refine r_lenNil rfl TF.sl22 rfl ?_) | (refine r_lenV rfl TF.sl22 rfl ?_)
  refine r_cmp rfl rfl rfl rfl ?_
  refine r_move rfl rfl ?_
  refine g_cases (t' := 11) rfl (fun hg11 => ?_) (fun hg11 => ?_)
  ·
    have hltx : k < ms.length := by have := of_decide_eq_true hg11; simpa using this
    obtain ⟨x, hx⟩ := get_lt hltx
    refine g_run rfl rfl hg11 ?_
    refine r_move rfl rfl ?_
    refine g_run rfl rfl hg11 ?_
    first | (refine r_load1 rfl TF.agg23 rfl ?_) | (refine r_load1b 0 rfl rfl rfl TF.agg23 rfl ?_)
    refine g_run rfl rfl hg11 ?_
    first | (refine r_lenS rfl rfl TF.sl23 rfl ?_) | (refine r_lenNil rfl TF.sl23 rfl ?_) | (refine r_lenV rfl TF.sl23 rfl ?_)
    refine g_run rfl rfl hg11 ?_
    refine r_cmp rfl rfl rfl rfl ?_
    refine r_pickT rfl hg11 rfl rfl ?_
    refine awl_nil ?_
    refine x_then ?_
    refine awp_cond rfl (fun hc0 => ?_) (fun hc0 => ?_)
    ·
      have hlty : k < ds.length := by have := of_decide_eq_true hc0; omega
      obtain ⟨y, hy⟩ := get_lt hlty
      refine awp_skip ?_
      refine x_then ?_
      refine awp_seq ?_
      refine awp_block ?_
      refine awp_seq ?_
      refine awp_region ?_
      first | (refine r_load1 rfl TF.agg22 rfl ?_) | (refine r_load1b 0 rfl rfl rfl TF.agg22 rfl ?_)
      refine r_move rfl rfl ?_
      refine r_index rfl rfl rfl TF.sl22 TF.sz30 (by omega) (get_map hx) rfl ?_
      first | (refine r_load1 rfl TF.agg30 rfl ?_) | (refine r_load1b 0 rfl rfl rfl TF.agg30 rfl ?_)
      refine r_move rfl rfl ?_
      refine r_cmp rfl rfl rfl rfl ?_
      refine awl_nil ?_
      refine x_then ?_
      refine awp_cond rfl (fun hc1 => ?_) (fun hc1 => ?_)
      ·
        have hhit := at_hit1 hx hy hno hc1
        refine awp_seq ?_
        refine awp_drawS [25, 26, 27, 28, 29, 30, 31, 32, 33, 34, 4] [_, _, _, _, _, _, _, _, _, _, _] [] [] TF.mixed rfl rfl rfl ⟨⟨⟨⟨⟨⟨⟨⟨⟨⟨⟨trivial
          , ⟨_, rfl, fun sl hd hr ho => by
              first | (refine r_load1 (hr 2 _ rfl rfl rfl) TF.agg23 rfl ?_) | (refine r_load1b 0 (hr 2 _ rfl rfl rfl) rfl rfl TF.agg23 rfl ?_)
              exact awl_nil ⟨rfl, post_put⟩⟩⟩
          , ⟨_, rfl, fun sl hd hr ho => by
              refine r_move (hr 6 _ rfl rfl rfl) rfl ?_
              exact awl_nil ⟨rfl, post_put⟩⟩⟩
          , ⟨_, rfl, fun sl hd hr ho => by
              refine r_indexV (hd 0 _ rfl rfl rfl) (hd 1 _ rfl rfl rfl) TF.sl23 TF.sz38 (by omega) (by omega) rfl ?_
              exact awl_nil ⟨rfl, post_put⟩⟩⟩
          , ⟨_, rfl, fun sl hd hr ho => by
              refine r_loadAbe 0 (Disk.cs y) (flat_drop dlen hy).1 (hd 2 _ rfl rfl rfl) rfl TF.agg38 TF.sz38 (Nat.ble_eq_true_of_le (flat_drop dlen hy).2) rfl ?_
              exact awl_nil ⟨rfl, post_put⟩⟩⟩
          , ⟨_, rfl, fun sl hd hr ho => by
              refine r_call0 hq rfl rfl (.cons (.ev (hd 3 _ rfl rfl rfl) rfl) .nil) (files_ok y (hok y (List.mem_of_getElem? hy))) rfl TF.en18 rfl (fun r hr => ?_)
              obtain rfl := hr
              exact awl_nil ⟨rfl, post_put⟩⟩⟩
          , ⟨_, rfl, fun sl hd hr ho => by
              first | (refine r_load1 (hr 2 _ rfl rfl rfl) TF.agg23 rfl ?_) | (refine r_load1b 0 (hr 2 _ rfl rfl rfl) rfl rfl TF.agg23 rfl ?_)
              exact awl_nil ⟨rfl, post_put⟩⟩⟩
          , ⟨_, rfl, fun sl hd hr ho => by
              refine r_move (hr 6 _ rfl rfl rfl) rfl ?_
              exact awl_nil ⟨rfl, post_put⟩⟩⟩
          , ⟨_, rfl, fun sl hd hr ho => by
              refine r_indexV (hd 5 _ rfl rfl rfl) (hd 6 _ rfl rfl rfl) TF.sl23 TF.sz38 (by omega) (by omega) rfl ?_
              exact awl_nil ⟨rfl, post_put⟩⟩⟩
          , ⟨_, rfl, fun sl hd hr ho => by
              first | (refine r_fieldb (hd 7 _ rfl rfl rfl) TF.f38_0 TF.sz4 rfl ?_) | (refine r_fieldcp (hd 7 _ rfl rfl rfl) TF.f38_0 TF.sz4 rfl ?_)
              exact awl_nil ⟨rfl, post_put⟩⟩⟩
          , ⟨_, rfl, fun sl hd hr ho => by
              refine r_load1b 0 (hd 8 _ rfl rfl rfl) rfl (disk_told hy) TF.agg4 rfl ?_
              exact awl_nil ⟨rfl, post_put⟩⟩⟩
          , ⟨_, rfl, fun sl hd hr ho => by
              refine r_assign (hd 4 _ rfl rfl rfl) rfl ?_
              exact awl_nil ⟨rfl, post_put⟩⟩⟩
          (by rfl) ?_
        first | refine awl_imp (imp_le 4 (x := .a (files [])) rfl (.nilSl _)) ?_ | skip
        refine r_assign rfl rfl ?_
        refine awl_nil ?_
        refine x_then ?_
        refine awp_ret ?_
        refine x_blockR ?_
        refine x_thenR ?_
        refine x_thenR ?_
        refine x_blockR ?_
        refine x_thenR ?_
        exact ⟨(.inl rfl), _, [], (.two (by first | exact .mk rfl rfl | exact .nil rfl) (by first | exact .mk rfl rfl | exact .nil rfl)), ⟨rfl, by rw [hhit]; rfl⟩, (List.nil_sublist _), (by simp)⟩
      ·
        refine awp_skip ?_
        refine x_block ?_
        refine x_then ?_
        refine awp_region ?_
        refine r_move rfl rfl ?_
        refine r_ari _ rfl rfl rfl (wrap_id (by first | omega | (simp; omega))) rfl ?_
        refine r_assign rfl rfl ?_
        refine awl_nil ?_
        refine x_then ?_
        refine ⟨ms.length - (k + 1), ⟨35, [(0, .a (.v (.int .u64 (m)))), (1, .a (.cp [numsA ms])), (2, .a (.cp [.v (.slice (some ⟨g, 0, none⟩) ds.length cap)])), (6, .a (.v (.int .i64 (((k + 1) : Int)))))], [⟨g, false, .box ((ds.map Disk.cs).flatten ++ ext)⟩]⟩, ⟨rfl, (Slots.cons rfl (by first | exact .refl _ | exact .nilOwn _ _ | exact .nilSl _ | exact .ownSl _ _ _  | exact SV.le.of_eq (by simp)) (Slots.cons rfl (by first | exact .refl _ | exact .nilOwn _ _ | exact .nilSl _ | exact .ownSl _ _ _  | exact SV.le.of_eq (by simp)) (Slots.cons rfl (by first | exact .refl _ | exact .nilOwn _ _ | exact .nilSl _ | exact .ownSl _ _ _  | exact SV.le.of_eq (by simp)) (Slots.cons rfl (by first | exact .refl _ | exact .nilOwn _ _ | exact .nilSl _ | exact .ownSl _ _ _  | exact SV.le.of_eq (by simp)) Slots.nil)))), (by first | exact List.Sublist.refl _ | exact .cons_cons _ (.cons _ (.refl _)) | exact List.nil_sublist _ | exact .cons _ (.refl _) | exact .cons _ (.cons _ (.refl _)) | exact .cons _ (.cons _ (.cons _ (.refl _))) | exact .cons _ (.cons _ (.cons _ (.cons _ (.refl _)))) | exact .cons_cons _ (List.nil_sublist _))⟩, (by omega), ⟨k + 1, rfl, rfl, (by omega), (fidx_step (zip_at hx hy) hc1 hno)⟩⟩
    ·
      try (have hmiss := at_miss1 (ds := ds) (k := k) (by have := of_decide_eq_false hc0; simp; omega) hno)
      refine awp_exit ?_
      refine x_thenE ?_
      refine x_thenE ?_
      refine x_blockE ?_
      refine x_then ?_
      refine awp_seq ?_
      refine awp_region ?_
      refine r_assign rfl rfl ?_
      first | refine awl_imp (imp_le 4 (x := .a (files [])) rfl (.nilSl _)) ?_ | skip
      refine r_assign rfl rfl ?_
      refine awl_nil ?_
      refine x_then ?_
      refine awp_ret ?_
      exact ⟨(.inl rfl), _, [], (.two (by first | exact .mk rfl rfl | exact .nil rfl) (by first | exact .mk rfl rfl | exact .nil rfl)), ⟨rfl, by rw [hmiss]; rfl⟩, (List.nil_sublist _), (by simp)⟩
  ·
    have hge : ms.length ≤ k := by have := of_decide_eq_false hg11; simp at this; omega
    have hmiss := at_miss1 (ds := ds) (k := k) (by simp; omega) hno
    refine g_skip rfl rfl hg11 rfl ?_
    refine g_skip rfl rfl hg11 rfl ?_
    refine g_skip rfl rfl hg11 rfl ?_
    refine g_skip rfl rfl hg11 rfl ?_
    refine r_pickF rfl hg11 rfl rfl ?_
    refine awl_nil ?_
    refine x_then ?_
    refine awp_condF rfl ?_
    try (have hmiss := at_miss1 (ds := ds) (k := k) (by have := of_decide_eq_false hc0; simp; omega) hno)
    refine awp_exit ?_
    refine x_thenE ?_
    refine x_thenE ?_
    refine x_blockE ?_
    refine x_then ?_
    refine awp_seq ?_
    refine awp_region ?_
    refine r_assign rfl rfl ?_
    first | refine awl_imp (imp_le 4 (x := .a (files [])) rfl (.nilSl _)) ?_ | skip
    refine r_assign rfl rfl ?_
    refine awl_nil ?_
    refine x_then ?_
    refine awp_ret ?_
    exact ⟨(.inl rfl), _, [], (.two (by first | exact .mk rfl rfl | exact .nil rfl) (by first | exact .mk rfl rfl | exact .nil rfl)), ⟨rfl, by rw [hmiss]; rfl⟩, (List.nil_sublist _), (by simp)⟩

theorem atV_ok (ms : List Int) {n cap g : Nat} : AC Try.prog 13 [numsA ms, .v (.slice (some ⟨g, 0, none⟩) n cap)] [] (fun r n' => n' = [] ∧ r = .fn 30 [.cp [numsA ms], .cp [.v (.slice (some ⟨g, 0, none⟩) n cap)]]) := by
  refine ac_of_awp (rs := [4]) (nt := 6) Try.func13 rfl rfl rfl rfl (fun w0 C0 hq => ?_)
  refine awp_seq ?_
  refine awp_region ?_
  refine r_box rfl rfl rfl (fun b2 => ?_)
  refine r_box rfl rfl rfl (fun b3 => ?_)
  refine r_assign rfl rfl ?_
  refine awl_nil ?_
  refine x_then ?_
  refine awp_seq ?_
  refine awp_region ?_
  refine awl_imp (imp_commit 0 3 rfl rfl rfl rfl) ?_
  refine awl_imp (imp_commit 0 2 rfl rfl rfl rfl) ?_
  refine r_makeFunc rfl (.cons (.ev rfl rfl) (.cons (.ev rfl rfl) .nil)) rfl ?_
  refine r_assign rfl rfl ?_
  refine awl_nil ?_
  refine x_then ?_
  refine awp_ret ?_
  exact ⟨(.inl rfl), _, [], (.one (by first | exact .mk rfl rfl | exact .nil rfl)), ⟨rfl, rfl⟩, (List.nil_sublist _), (by simp)⟩

theorem tlV_ok (ms : List Int) (ds : List Disk) (hml : ms.length ≤ 1000) (hok : ∀ d ∈ ds, OkD d) (hr : riseF ms = true) {g cap : Nat} {ext : List AV} : AW Try.prog 14 [numsA ms, .fn 30 [.cp [numsA ms], .cp [.v (.slice (some ⟨g, 0, none⟩) ds.length cap)]]] [] [⟨g, true, .box ((ds.map Disk.cs).flatten ++ ext)⟩] (fun r n => r = evsA (tlF ms (atF ms ds)) ∧ n = [⟨g, true, .box ((ds.map Disk.cs).flatten ++ ext)⟩]) :=
  (tl_ok (atF ms ds) at_en (fun _ os => os = [⟨g, true, .box ((ds.map Disk.cs).flatten ++ ext)⟩]) (fun a os h => by subst h; rfl) (fun a os m h _ => by
    subst h
    exact (AW.keep (atcV_ok ms ds (by omega) hok m)).mono fun r n ⟨n', ⟨h1, h2⟩, h3⟩ => ⟨h2, by subst h1; rw [h3]; rfl⟩) (good_at ms ds) ms hml (os0 := [⟨g, true, .box ((ds.map Disk.cs).flatten ++ ext)⟩]) rfl).mono fun r n h => ⟨h.1, h.2.1 hr⟩

theorem tlVn_ok (ms : List Int) (ds : List Disk) (hml : ms.length ≤ 1000) (hok : ∀ d ∈ ds, OkD d) (hr : riseF ms = true) {n g cap : Nat} (hn : n = ds.length) {ext : List AV} : AW Try.prog 14 [numsA ms, .fn 30 [.cp [numsA ms], .cp [.v (.slice (some ⟨g, 0, none⟩) n cap)]]] [] [⟨g, true, .box ((ds.map Disk.cs).flatten ++ ext)⟩] (fun r n => r = evsA (tlF ms (atF ms ds)) ∧ n = [⟨g, true, .box ((ds.map Disk.cs).flatten ++ ext)⟩]) := by
  subst hn; exact tlV_ok ms ds hml hok hr

set_option maxHeartbeats 2000000 in
theorem still_walk (ms : List Int) (ds : List Disk) (hok : ∀ d ∈ ds, OkD d) (w : Nat) (hw : w < 256) : AC Try.prog 5 [numsA ms, disksA ds, .v (.int .u8 (w : Int))] [] (fun r n => n = [] ∧ r = boolA true) := by
  refine ac_of_awp (rs := [6]) (nt := 89) Try.func5 rfl rfl rfl rfl (fun w0 C0 hq => ?_)
  refine awp_seq ?_
  refine awp_region ?_
  refine r_assign rfl rfl ?_
  refine awl_nil ?_
  refine x_then ?_
  refine awp_seq ?_
  refine awp_seq ?_
  refine awp_region ?_
  refine r_call0 hq rfl rfl .nil (awake_ok) rfl TF.en11 rfl (fun r hr => ?_)
  obtain rfl := hr
  refine r_not rfl rfl ?_
  refine awl_nil ?_
  refine x_then ?_
  refine awp_cond rfl (fun hc0 => ?_) (fun hc0 => ?_)
  ·
    exfalso; exact absurd hc0 (by decide)
  ·
    refine awp_skip ?_
    refine x_then ?_
    refine awp_seq ?_
    refine awp_seq ?_
    refine awp_region ?_
    refine r_move rfl rfl ?_
    refine r_move rfl rfl ?_
    refine r_call0 hq rfl rfl (.cons (.ev rfl rfl) (.cons (.ev rfl rfl) .nil)) (great_ok ms ds) rfl TF.en12 rfl (fun r hr => ?_)
    rcases hr with rfl | ⟨rfl, hm12, hd12⟩
    
    ·
      refine r_cmp rfl rfl rfl rfl ?_
      refine r_move rfl rfl ?_
      refine g_skip rfl rfl rfl rfl ?_
      refine g_skip rfl rfl rfl rfl ?_
      refine g_skip rfl rfl rfl rfl ?_
      refine r_pickT rfl rfl rfl rfl ?_
      refine r_move rfl rfl ?_
      refine g_skip rfl rfl rfl rfl ?_
      refine g_skip rfl rfl rfl rfl ?_
      refine g_skip rfl rfl rfl rfl ?_
      refine r_pickT rfl rfl rfl rfl ?_
      refine r_move rfl rfl ?_
      refine g_skip rfl rfl rfl rfl ?_
      refine g_skip rfl rfl rfl rfl ?_
      refine g_skip rfl rfl rfl rfl ?_
      refine g_skip rfl rfl rfl rfl ?_
      refine g_skip rfl rfl rfl rfl ?_
      refine r_pickT rfl rfl rfl rfl ?_
      refine awl_nil ?_
      refine x_then ?_
      refine awp_condT rfl ?_
      refine awp_seq ?_
      refine awp_region ?_
      refine r_assign rfl rfl ?_
      refine awl_nil ?_
      refine x_then ?_
      refine awp_ret ?_
      refine x_thenR ?_
      exact ⟨(.inl rfl), _, [], (.one (by first | exact .mk rfl rfl | exact .nil rfl)), ⟨rfl, rfl⟩, (List.nil_sublist _), (by simp)⟩
    ·
      refine r_cmp rfl rfl rfl rfl ?_
      refine r_move rfl rfl ?_
      refine g_run rfl rfl rfl ?_
      refine r_move rfl rfl ?_
      refine g_run rfl rfl rfl ?_
      refine r_call0 hq rfl rfl (.cons (.ev rfl rfl) .nil) (rrise_ok ms (by omega)) rfl TF.en16 rfl (fun r hr => ?_)
      obtain rfl := hr
      refine g_run rfl rfl rfl ?_
      refine r_not rfl rfl ?_
      refine r_pickF rfl rfl rfl rfl ?_
      refine r_move rfl rfl ?_
      refine g_cases (t' := 22) rfl (fun hg22 => ?_) (fun hg22 => ?_)
      ·
        refine g_skip rfl rfl hg22 rfl ?_
        refine g_skip rfl rfl hg22 rfl ?_
        refine g_skip rfl rfl hg22 rfl ?_
        refine r_pickT rfl hg22 rfl rfl ?_
        refine r_move rfl rfl ?_
        refine g_skip rfl rfl rfl rfl ?_
        refine g_skip rfl rfl rfl rfl ?_
        refine g_skip rfl rfl rfl rfl ?_
        refine g_skip rfl rfl rfl rfl ?_
        refine g_skip rfl rfl rfl rfl ?_
        refine r_pickT rfl rfl rfl rfl ?_
        refine awl_nil ?_
        refine x_then ?_
        refine awp_condT rfl ?_
        refine awp_seq ?_
        refine awp_region ?_
        refine r_assign rfl rfl ?_
        refine awl_nil ?_
        refine x_then ?_
        refine awp_ret ?_
        refine x_thenR ?_
        exact ⟨(.inl rfl), _, [], (.one (by first | exact .mk rfl rfl | exact .nil rfl)), ⟨rfl, rfl⟩, (List.nil_sublist _), (by simp)⟩
      ·
        have hrf : riseF ms = true := by simpa using hg22
        refine g_run rfl rfl hg22 ?_
        refine r_move rfl rfl ?_
        refine g_run rfl rfl hg22 ?_
        first | (refine r_lenS rfl rfl TF.sl22 rfl ?_) | (refine r_lenNil rfl TF.sl22 rfl ?_) | (refine r_lenV rfl TF.sl22 rfl ?_)
        refine g_run rfl rfl hg22 ?_
        refine r_cmp rfl rfl rfl rfl ?_
        refine r_pickF rfl hg22 rfl rfl ?_
        refine r_move rfl rfl ?_
        refine g_cases (t' := 27) rfl (fun hg27 => ?_) (fun hg27 => ?_)
        ·
          refine g_skip rfl rfl hg27 rfl ?_
          refine g_skip rfl rfl hg27 rfl ?_
          refine g_skip rfl rfl hg27 rfl ?_
          refine g_skip rfl rfl hg27 rfl ?_
          refine g_skip rfl rfl hg27 rfl ?_
          refine r_pickT rfl hg27 rfl rfl ?_
          refine awl_nil ?_
          refine x_then ?_
          refine awp_condT rfl ?_
          refine awp_seq ?_
          refine awp_region ?_
          refine r_assign rfl rfl ?_
          refine awl_nil ?_
          refine x_then ?_
          refine awp_ret ?_
          refine x_thenR ?_
          exact ⟨(.inl rfl), _, [], (.one (by first | exact .mk rfl rfl | exact .nil rfl)), ⟨rfl, rfl⟩, (List.nil_sublist _), (by simp)⟩
        ·
          have hm2 : 2 ≤ ms.length := by have := of_decide_eq_false hg27; simp at this; omega
          refine g_run rfl rfl hg27 ?_
          refine r_move rfl rfl ?_
          refine g_run rfl rfl hg27 ?_
          first | (refine r_lenS rfl rfl TF.sl23 rfl ?_) | (refine r_lenNil rfl TF.sl23 rfl ?_) | (refine r_lenV rfl TF.sl23 rfl ?_)
          refine g_run rfl rfl hg27 ?_
          refine r_move rfl rfl ?_
          refine g_run rfl rfl hg27 ?_
          first | (refine r_lenS rfl rfl TF.sl22 rfl ?_) | (refine r_lenNil rfl TF.sl22 rfl ?_) | (refine r_lenV rfl TF.sl22 rfl ?_)
          refine g_run rfl rfl hg27 ?_
          refine r_cmp rfl rfl rfl rfl ?_
          refine r_pickF rfl hg27 rfl rfl ?_
          refine awl_nil ?_
          refine x_then ?_
          refine awp_cond rfl (fun hc1 => ?_) (fun hc1 => ?_)
          ·
            refine awp_seq ?_
            refine awp_region ?_
            refine r_assign rfl rfl ?_
            refine awl_nil ?_
            refine x_then ?_
            refine awp_ret ?_
            refine x_thenR ?_
            exact ⟨(.inl rfl), _, [], (.one (by first | exact .mk rfl rfl | exact .nil rfl)), ⟨rfl, rfl⟩, (List.nil_sublist _), (by simp)⟩
          ·
            have hmd : ms.length ≤ ds.length := by have := of_decide_eq_false hc1; simp at this; omega
            obtain ⟨k, hkk⟩ : ∃ k, k = 1 + w % (ms.length - 1) := ⟨_, rfl⟩
            have hk0 : 0 < k := by omega
            have hkm : k < ms.length := by have := Nat.mod_lt w (show 0 < ms.length - 1 by omega); omega
            obtain ⟨x, hx⟩ := get_lt (show k - 1 < ds.length by omega)
            obtain ⟨m, hm⟩ := get_lt hkm
            obtain ⟨hl1, hl2⟩ := still_law hrf hk0 hm (by omega) hx
            have hrem : (w : Int).tmod (((ms.map fun m => [AV.v (.int .u64 m)]).length : Nat) - 1 : Int) = (k : Int) - 1 := by rw [len_num, show ((ms.length : Int) - 1) = ((ms.length - 1 : Nat) : Int) by omega, ← Int.ofNat_tmod]; omega
            have hokx : OkD x := hok x (List.mem_of_getElem? hx)
            have hok1 : ∀ d ∈ (ds.set k x), OkD d := fun d hd => by rcases List.mem_or_eq_of_mem_set hd with h | rfl; exact hok d h; exact hokx
            have hok2 : ∀ d ∈ ((ds.set k x).set k { x with told := false }), OkD d := fun d hd => by rcases List.mem_or_eq_of_mem_set hd with h | rfl; exact hok1 d h; exact hokx
            refine awp_skip ?_
            refine x_then ?_
            refine awp_seq ?_
            refine awp_region ?_
            refine r_move rfl rfl ?_
            refine r_conv (w : Int) rfl TF.un5 TF.un3 (wrap_id (by omega)) rfl ?_
            refine r_move rfl rfl ?_
            first | (refine r_lenS rfl rfl TF.sl22 rfl ?_) | (refine r_lenNil rfl TF.sl22 rfl ?_) | (refine r_lenV rfl TF.sl22 rfl ?_)
            refine r_ari _ rfl rfl rfl (wrap_id (by first | omega | (simp; omega))) rfl ?_
            refine r_div ((k : Int) - 1) rfl rfl (rem_some (by simp; omega)) hrem rfl ?_
            refine r_ari (k : Int) rfl rfl rfl (by rw [show (1 : Int) + ((k : Int) - 1) = (k : Int) by omega]; exact wrap_id (by omega)) rfl ?_
            refine r_assign rfl rfl ?_
            refine awl_nil ?_
            refine x_then ?_
            refine awp_seq ?_
            refine awp_region ?_
            refine r_lit 41 (parts := []) rfl TF.sl23 TF.sz38 TF.zraw38 rfl rfl rfl rfl rfl rfl rfl ?_
            refine r_move rfl rfl ?_
            refine r_append 41 rfl (by first | exact .own _ | exact .nil) rfl (by first | exact .sl _ | exact .own _ _ | exact .nil) TF.sl23 TF.sz38 (by decide) TF.by38 TF.zlen38 (by simp [chunks] <;> omega) (by simp [chunks] <;> omega) rfl ?_
            refine r_assign rfl rfl ?_
            refine awl_nil ?_
            refine x_then ?_
            refine awp_seq ?_
            refine awp_region ?_
            refine awl_ownbufK isU64 8 [(0, numsA ms), (7, .v (.int .i64 (k : Int)))] (l := ds.map Disk.cs) rfl (by intro h; rw [List.map_eq_nil_iff] at h; subst h; simp at hx) disk_flat (by intro q hq; simp at hq; rcases hq with rfl | rfl; exact ⟨rfl, sep_nums ms⟩; exact ⟨rfl, .v _⟩) (fun g cap e => ?_)
            rw [show (List.map Disk.cs ds).length = ds.length from List.length_map ..]
            refine awl_bufBox 0 rfl (fun ext => ?_)
            refine r_move rfl rfl ?_
            refine r_move rfl rfl ?_
            refine r_move rfl rfl ?_
            refine r_move rfl rfl ?_
            refine r_ari _ rfl rfl rfl (wrap_id (by first | omega | (simp; omega))) rfl ?_
            refine r_indexV rfl rfl TF.sl23 TF.sz38 (by omega) (by omega) rfl ?_
            refine r_loadAbe 0 (Disk.cs x) (flat_drop dlen (k := ((k : Int) - 1).toNat) (by rw [show ((k : Int) - 1).toNat = k - 1 by omega]; exact hx)).1 rfl rfl TF.agg38 TF.sz38 (Nat.ble_eq_true_of_le (flat_drop dlen (k := ((k : Int) - 1).toNat) (by rw [show ((k : Int) - 1).toNat = k - 1 by omega]; exact hx)).2) rfl ?_
            refine r_indexV rfl rfl TF.sl23 TF.sz38 (by omega) (by omega) rfl ?_
            refine r_store 0 rfl rfl rfl TF.sz38 rfl (by first | exact Nat.ble_eq_true_of_le (flat_drop dlen (k := k) (List.getElem?_eq_getElem (show k < ds.length by omega))).2 | exact Nat.ble_eq_true_of_le (Nat.le_trans (by omega) (flat_drop dlen (l := (ds.set k x)) (k := k) (List.getElem?_set_self (by omega))).2)) rfl ?_
            refine awl_nil ?_
            refine x_then ?_
            refine awp_seq ?_
            refine awp_region ?_
            refine awl_imp (imp_boxEq 0 (((ds.set k x).map Disk.cs).flatten ++ ext) rfl (flat_set dlen (show k < ds.length by omega))) ?_
            refine r_move rfl rfl ?_
            refine r_move rfl rfl ?_
            refine r_move rfl rfl ?_
            refine r_call0 hq rfl rfl (.cons (.ev rfl rfl) (.cons (.ev rfl rfl) .nil)) (atV_ok ms) rfl TF.en13 rfl (fun r hr => ?_)
            obtain rfl := hr
            refine r_callP hq (wo := [⟨g, true, .box (((ds.set k x).map Disk.cs).flatten ++ ext)⟩]) (un := []) rfl rfl (.cons (.ev rfl rfl) (.cons (.ev rfl rfl) .nil)) (tlVn_ok ms (ds.set k x) (by omega) hok1 hrf (by simp)) rfl TF.en14 (List.Perm.refl _) (rfl) (List.nil_sublist _) rfl (fun r nobjs hr => ?_)
            obtain ⟨rfl, rfl⟩ := hr
            rw [List.append_nil, show Tr [⟨g, true, .box (((ds.set k x).map Disk.cs).flatten ++ ext)⟩] = [⟨g, true, .box (((ds.set k x).map Disk.cs).flatten ++ ext)⟩] from rfl]
            refine r_assign rfl rfl ?_
            refine awl_nil ?_
            refine x_then ?_
            refine awp_seq ?_
            refine awp_seq ?_
            refine awp_region ?_
            refine r_assign rfl rfl ?_
            refine awl_nil ?_
            refine x_then ?_
            refine awp_block ?_
            refine awp_loop (fun nn0 S => ∃ i : Nat, S = ⟨89, [(0, .a (numsA ms)), (7, .a (.v (.int .i64 ((k : Int))))), (8, .a (.v (.slice (some ⟨g, 0, none⟩) ds.length cap))), (9, .a (evsA (tlF ms (atF ms (ds.set k x))))), (10, .a (.v (.int .i64 ((i : Int)))))], [⟨g, true, .box (((ds.set k x).map Disk.cs).flatten ++ ext)⟩]⟩ ∧ nn0 = (tlF ms (atF ms (ds.set k x))).length - i ∧ (i ≤ (tlF ms (atF ms (ds.set k x))).length)) ((tlF ms (atF ms (ds.set k x))).length - (0)) ⟨89, [(0, .a (numsA ms)), (7, .a (.v (.int .i64 ((k : Int))))), (8, .a (.v (.slice (some ⟨g, 0, none⟩) ds.length cap))), (9, .a (evsA (tlF ms (atF ms (ds.set k x))))), (10, .a (.v (.int .i64 (((0) : Int)))))], [⟨g, true, .box (((ds.set k x).map Disk.cs).flatten ++ ext)⟩]⟩ ⟨rfl, (Slots.cons rfl (by first | exact .refl _ | exact .nilOwn _ _ | exact .nilSl _ | exact .ownSl _ _ _  | exact SV.le.of_eq (by simp)) (Slots.cons rfl (by first | exact .refl _ | exact .nilOwn _ _ | exact .nilSl _ | exact .ownSl _ _ _  | exact SV.le.of_eq (by simp)) (Slots.cons rfl (by first | exact .refl _ | exact .nilOwn _ _ | exact .nilSl _ | exact .ownSl _ _ _  | exact SV.le.of_eq (by simp)) (Slots.cons rfl (by first | exact .refl _ | exact .nilOwn _ _ | exact .nilSl _ | exact .ownSl _ _ _  | exact SV.le.of_eq (by simp)) (Slots.cons rfl (by first | exact .refl _ | exact .nilOwn _ _ | exact .nilSl _ | exact .ownSl _ _ _  | exact SV.le.of_eq (by simp)) Slots.nil))))), (by first | exact List.Sublist.refl _ | exact .cons_cons _ (.cons _ (.refl _)) | exact List.nil_sublist _ | exact .cons _ (.refl _) | exact .cons _ (.cons _ (.refl _)) | exact .cons _ (.cons _ (.cons _ (.refl _))) | exact .cons _ (.cons _ (.cons _ (.cons _ (.refl _)))) | exact .cons_cons _ (List.nil_sublist _))⟩ ⟨0, rfl, rfl, Nat.zero_le _⟩ ?_
            rintro nn0 _ ⟨i, rfl, rfl, hi⟩
            refine awp_seq ?_
            refine awp_seq ?_
            refine awp_region ?_
            refine r_move rfl rfl ?_
            refine r_move rfl rfl ?_
            first | (refine r_lenS rfl rfl TF.sl28 rfl ?_) | (refine r_lenNil rfl TF.sl28 rfl ?_) | (refine r_lenV rfl TF.sl28 rfl ?_)
            refine r_cmp rfl rfl rfl rfl ?_
            refine r_move rfl rfl ?_
            refine g_cases (t' := 61) rfl (fun hg61 => ?_) (fun hg61 => ?_)
            ·
              have hlte : i < (tlF ms (atF ms (ds.set k x))).length := by have := of_decide_eq_true hg61; simpa using this
              obtain ⟨e, he⟩ := get_lt hlte
              refine g_run rfl rfl hg61 ?_
              refine r_move rfl rfl ?_
              refine g_run rfl rfl hg61 ?_
              refine r_cmp rfl rfl rfl rfl ?_
              refine r_pickT rfl hg61 rfl rfl ?_
              refine awl_nil ?_
              refine x_then ?_
              refine awp_cond rfl (fun hc2 => ?_) (fun hc2 => ?_)
              ·
                have htl := tlF_len ms ms (ds.set k x)
                refine awp_skip ?_
                refine x_then ?_
                refine awp_seq ?_
                refine awp_block ?_
                refine awp_seq ?_
                refine awp_drawS [67, 68, 69, 70, 71, 72, 73, 74, 75] [_, _, _, _, _, _, _, _, _] [] [] TF.mixed rfl rfl rfl ⟨⟨⟨⟨⟨⟨⟨⟨⟨trivial
                  , ⟨_, rfl, fun sl hd hr ho => by
                      refine r_move (hr 9 _ rfl rfl rfl) rfl ?_
                      exact awl_nil ⟨rfl, post_put⟩⟩⟩
                  , ⟨_, rfl, fun sl hd hr ho => by
                      refine r_move (hr 10 _ rfl rfl rfl) rfl ?_
                      exact awl_nil ⟨rfl, post_put⟩⟩⟩
                  , ⟨_, rfl, fun sl hd hr ho => by
                      refine r_index (hd 0 _ rfl rfl rfl) rfl (hd 1 _ rfl rfl rfl) TF.sl28 TF.sz46 (by omega) (get_map he) rfl ?_
                      exact awl_nil ⟨rfl, post_put⟩⟩⟩
                  , ⟨_, rfl, fun sl hd hr ho => by
                      first | (refine r_fieldb (hd 2 _ rfl rfl rfl) TF.f46_0 TF.sz30 rfl ?_) | (refine r_fieldcp (hd 2 _ rfl rfl rfl) TF.f46_0 TF.sz30 rfl ?_)
                      exact awl_nil ⟨rfl, post_put⟩⟩⟩
                  , ⟨_, rfl, fun sl hd hr ho => by
                      first | (refine r_load1 (hd 3 _ rfl rfl rfl) TF.agg30 rfl ?_) | (refine r_load1b 0 (hd 3 _ rfl rfl rfl) rfl rfl TF.agg30 rfl ?_)
                      exact awl_nil ⟨rfl, post_put⟩⟩⟩
                  , ⟨_, rfl, fun sl hd hr ho => by
                      refine r_move (hr 0 _ rfl rfl rfl) rfl ?_
                      exact awl_nil ⟨rfl, post_put⟩⟩⟩
                  , ⟨_, rfl, fun sl hd hr ho => by
                      refine r_move (hr 7 _ rfl rfl rfl) rfl ?_
                      exact awl_nil ⟨rfl, post_put⟩⟩⟩
                  , ⟨_, rfl, fun sl hd hr ho => by
                      refine r_index (hd 5 _ rfl rfl rfl) rfl (hd 6 _ rfl rfl rfl) TF.sl22 TF.sz30 (by omega) (get_map hm) rfl ?_
                      exact awl_nil ⟨rfl, post_put⟩⟩⟩
                  , ⟨_, rfl, fun sl hd hr ho => by
                      first | (refine r_load1 (hd 7 _ rfl rfl rfl) TF.agg30 rfl ?_) | (refine r_load1b 0 (hd 7 _ rfl rfl rfl) rfl rfl TF.agg30 rfl ?_)
                      exact awl_nil ⟨rfl, post_put⟩⟩⟩
                  (by rfl) ?_
                refine r_cmp rfl rfl rfl rfl ?_
                refine awl_nil ?_
                refine x_then ?_
                refine awp_cond rfl (fun hc3 => ?_) (fun hc3 => ?_)
                ·
                  exfalso; exact hl1 e (List.mem_of_getElem? he) (eq_of_beq hc3)
                ·
                  refine awp_skip ?_
                  refine x_block ?_
                  refine x_then ?_
                  refine awp_region ?_
                  refine r_move rfl rfl ?_
                  refine r_ari _ rfl rfl rfl (wrap_id (by first | omega | (simp; omega))) rfl ?_
                  refine r_assign rfl rfl ?_
                  refine awl_nil ?_
                  refine x_then ?_
                  refine ⟨(tlF ms (atF ms (ds.set k x))).length - (i + 1), ⟨89, [(0, .a (numsA ms)), (7, .a (.v (.int .i64 ((k : Int))))), (8, .a (.v (.slice (some ⟨g, 0, none⟩) ds.length cap))), (9, .a (evsA (tlF ms (atF ms (ds.set k x))))), (10, .a (.v (.int .i64 (((i + 1) : Int)))))], [⟨g, true, .box (((ds.set k x).map Disk.cs).flatten ++ ext)⟩]⟩, ⟨rfl, (Slots.cons rfl (by first | exact .refl _ | exact .nilOwn _ _ | exact .nilSl _ | exact .ownSl _ _ _  | exact SV.le.of_eq (by simp)) (Slots.cons rfl (by first | exact .refl _ | exact .nilOwn _ _ | exact .nilSl _ | exact .ownSl _ _ _  | exact SV.le.of_eq (by simp)) (Slots.cons rfl (by first | exact .refl _ | exact .nilOwn _ _ | exact .nilSl _ | exact .ownSl _ _ _  | exact SV.le.of_eq (by simp)) (Slots.cons rfl (by first | exact .refl _ | exact .nilOwn _ _ | exact .nilSl _ | exact .ownSl _ _ _  | exact SV.le.of_eq (by simp)) (Slots.cons rfl (by first | exact .refl _ | exact .nilOwn _ _ | exact .nilSl _ | exact .ownSl _ _ _  | exact SV.le.of_eq (by simp)) Slots.nil))))), (by first | exact List.Sublist.refl _ | exact .cons_cons _ (.cons _ (.refl _)) | exact List.nil_sublist _ | exact .cons _ (.refl _) | exact .cons _ (.cons _ (.refl _)) | exact .cons _ (.cons _ (.cons _ (.refl _))) | exact .cons _ (.cons _ (.cons _ (.cons _ (.refl _)))) | exact .cons_cons _ (List.nil_sublist _))⟩, (by omega), ⟨i + 1, rfl, rfl, (by omega)⟩⟩
              ·
                refine awp_exit ?_
                refine x_thenE ?_
                refine x_thenE ?_
                refine x_blockE ?_
                refine x_then ?_
                refine awp_seq ?_
                refine awp_region ?_
                refine r_move rfl rfl ?_
                refine r_move rfl rfl ?_
                refine r_indexV rfl rfl TF.sl23 TF.sz38 (by omega) (by omega) rfl ?_
                first | (refine r_fieldb rfl TF.f38_0 TF.sz4 rfl ?_) | (refine r_fieldcp rfl TF.f38_0 TF.sz4 rfl ?_)
                refine r_store 0 rfl rfl rfl TF.sz4 rfl (by first | exact Nat.ble_eq_true_of_le (flat_drop dlen (k := k) (List.getElem?_eq_getElem (show k < ds.length by omega))).2 | exact Nat.ble_eq_true_of_le (Nat.le_trans (by omega) (flat_drop dlen (l := (ds.set k x)) (k := k) (List.getElem?_set_self (by omega))).2)) rfl ?_
                refine awl_nil ?_
                refine x_then ?_
                refine awp_seq ?_
                refine awp_region ?_
                refine awl_imp (imp_boxEq 0 ((((ds.set k x).set k { x with told := false }).map Disk.cs).flatten ++ ext) rfl (disk_set1 (l := (ds.set k x)) (k := k) (x := x) (List.getElem?_set_self (by omega)) false)) ?_
                refine r_move rfl rfl ?_
                refine r_move rfl rfl ?_
                refine r_move rfl rfl ?_
                refine r_move rfl rfl ?_
                refine r_call0 hq rfl rfl (.cons (.ev rfl rfl) (.cons (.ev rfl rfl) .nil)) (atV_ok ms) rfl TF.en13 rfl (fun r hr => ?_)
                obtain rfl := hr
                refine r_callP hq (wo := [⟨g, true, .box ((((ds.set k x).set k { x with told := false }).map Disk.cs).flatten ++ ext)⟩]) (un := []) rfl rfl (.cons (.ev rfl rfl) (.cons (.ev rfl rfl) .nil)) (tlVn_ok ms ((ds.set k x).set k { x with told := false }) (by omega) hok2 hrf (by simp)) rfl TF.en14 (List.Perm.refl _) (rfl) (List.nil_sublist _) rfl (fun r nobjs hr => ?_)
                obtain ⟨rfl, rfl⟩ := hr
                rw [← hl2]
                refine r_call0 hq rfl rfl (.cons (.ev rfl rfl) (.cons (.ev rfl rfl) .nil)) (same_ok (tlF ms (atF ms (ds.set k x))) (by have := tlF_len ms ms (ds.set k x); omega)) rfl TF.en19 rfl (fun r hr => ?_)
                obtain rfl := hr
                refine r_cmp rfl rfl rfl rfl ?_
                refine r_assign rfl rfl ?_
                refine awl_nil ?_
                refine x_then ?_
                refine awp_ret ?_
                exact ⟨(.inl rfl), _, [], (.one (by first | exact .mk rfl rfl | exact .nil rfl)), ⟨rfl, rfl⟩, (List.nil_sublist _), (by simp)⟩
            ·
              refine g_skip rfl rfl hg61 rfl ?_
              refine g_skip rfl rfl hg61 rfl ?_
              refine r_pickF rfl hg61 rfl rfl ?_
              refine awl_nil ?_
              refine x_then ?_
              refine awp_condF rfl ?_
              refine awp_exit ?_
              refine x_thenE ?_
              refine x_thenE ?_
              refine x_blockE ?_
              refine x_then ?_
              refine awp_seq ?_
              refine awp_region ?_
              refine r_move rfl rfl ?_
              refine r_move rfl rfl ?_
              refine r_indexV rfl rfl TF.sl23 TF.sz38 (by omega) (by omega) rfl ?_
              first | (refine r_fieldb rfl TF.f38_0 TF.sz4 rfl ?_) | (refine r_fieldcp rfl TF.f38_0 TF.sz4 rfl ?_)
              refine r_store 0 rfl rfl rfl TF.sz4 rfl (by first | exact Nat.ble_eq_true_of_le (flat_drop dlen (k := k) (List.getElem?_eq_getElem (show k < ds.length by omega))).2 | exact Nat.ble_eq_true_of_le (Nat.le_trans (by omega) (flat_drop dlen (l := (ds.set k x)) (k := k) (List.getElem?_set_self (by omega))).2)) rfl ?_
              refine awl_nil ?_
              refine x_then ?_
              refine awp_seq ?_
              refine awp_region ?_
              refine awl_imp (imp_boxEq 0 ((((ds.set k x).set k { x with told := false }).map Disk.cs).flatten ++ ext) rfl (disk_set1 (l := (ds.set k x)) (k := k) (x := x) (List.getElem?_set_self (by omega)) false)) ?_
              refine r_move rfl rfl ?_
              refine r_move rfl rfl ?_
              refine r_move rfl rfl ?_
              refine r_move rfl rfl ?_
              refine r_call0 hq rfl rfl (.cons (.ev rfl rfl) (.cons (.ev rfl rfl) .nil)) (atV_ok ms) rfl TF.en13 rfl (fun r hr => ?_)
              obtain rfl := hr
              refine r_callP hq (wo := [⟨g, true, .box ((((ds.set k x).set k { x with told := false }).map Disk.cs).flatten ++ ext)⟩]) (un := []) rfl rfl (.cons (.ev rfl rfl) (.cons (.ev rfl rfl) .nil)) (tlVn_ok ms ((ds.set k x).set k { x with told := false }) (by omega) hok2 hrf (by simp)) rfl TF.en14 (List.Perm.refl _) (rfl) (List.nil_sublist _) rfl (fun r nobjs hr => ?_)
              obtain ⟨rfl, rfl⟩ := hr
              rw [← hl2]
              refine r_call0 hq rfl rfl (.cons (.ev rfl rfl) (.cons (.ev rfl rfl) .nil)) (same_ok (tlF ms (atF ms (ds.set k x))) (by have := tlF_len ms ms (ds.set k x); omega)) rfl TF.en19 rfl (fun r hr => ?_)
              obtain rfl := hr
              refine r_cmp rfl rfl rfl rfl ?_
              refine r_assign rfl rfl ?_
              refine awl_nil ?_
              refine x_then ?_
              refine awp_ret ?_
              exact ⟨(.inl rfl), _, [], (.one (by first | exact .mk rfl rfl | exact .nil rfl)), ⟨rfl, rfl⟩, (List.nil_sublist _), (by simp)⟩

theorem still_law2 (ms : List Int) (ds : List Disk) (hok : ∀ d ∈ ds, OkD d) (x : Int) (h : (Lit.int .u8 x).wf = true) : AC Try.prog 5 [numsA ms, disksA ds, .v (.int .u8 x)] [] (fun r n => n = [] ∧ r = boolA true) := by
  obtain ⟨n, rfl, hn⟩ := u8_of h; exact still_walk ms ds hok n hn

end Go.Proofs.Ytmbfmnhcahhciaa.A

/- Layer 66: SalvageNewest, walked. -/
import Derived.Test.YtpoacfbobalpkaaProg
import Derived.KernelRfl
import Derived.Test.YtpoacfbobalpkaaX66M
import Derived.Test.YtpoacfbobalpkaaX66U
namespace Go.Proofs.Ytpoacfbobalpkaa.A
open Go Go.RowKit
set_option linter.unusedVariables false
set_option linter.unusedSimpArgs false
set_option maxRecDepth 100000

theorem T.en24 : entersT Try.prog 24 := enters_of Try.func24 (by kernel_rfl) (by kernel_rfl)

theorem findR_eq (l : List File) (n : ByteArray) : findR l n = .tup [File.av (((l.find? (fun f => decide (f.name = n))).map fun f => (⟨n, f.data⟩ : File)).getD File.zero), boolA (l.find? (fun f => decide (f.name = n))).isSome] := by
  unfold findR; cases l.find? (fun f => decide (f.name = n)) <;> rfl

theorem newest_law (l : List Moment) (nums : List Int) (not : Int) : AC Try.prog 7 [momentsA l, numsA nums, u8A not] [] (fun r n => n = [] ∧ r = boolA true) := by
  refine ac_of_awp (rs := [6]) (nt := 158) Try.func7 rfl rfl rfl rfl (fun w0 C0 => ?_)
  refine awp_seq ?_
  refine awp_region ?_
  refine r_assign rfl rfl ?_
  refine awl_nil ?_
  refine x_then ?_
  refine awp_seq ?_
  refine awp_seq ?_
  refine awp_region ?_
  refine r_call0 rfl rfl .nil (awake_ok) rfl T.en9 rfl (fun r hr => ?_)
  obtain rfl := hr
  refine r_not rfl rfl ?_
  refine awl_nil ?_
  refine x_then ?_
  refine awp_cond rfl (fun hc0 => ?_) (fun hc0 => ?_)
  ·
    exfalso; exact absurd hc0 (by decide)
  ·
    refine awp_skip ?_
    refine x_then ?_
    refine awp_seq ?_
    refine awp_seq ?_
    refine awp_region ?_
    refine r_move rfl rfl ?_
    refine r_move rfl rfl ?_
    refine r_call0 rfl rfl (.cons (.ev rfl rfl) (.cons (.ev rfl rfl) .nil)) (small_ok l nums) rfl T.en10 rfl (fun r hr => ?_)
    rcases hr with rfl | ⟨rfl, h⟩
    
    ·
      refine r_cmp rfl rfl rfl rfl ?_
      refine awl_nil ?_
      refine x_then ?_
      refine awp_condT rfl ?_
      refine awp_seq ?_
      refine awp_region ?_
      refine r_assign rfl rfl ?_
      refine awl_nil ?_
      refine x_then ?_
      refine awp_ret ?_
      refine x_thenR ?_
      exact ⟨(.inl rfl), _, [], (.one (by first | exact .mk rfl rfl | exact .nil rfl)), ⟨rfl, rfl⟩, (List.nil_sublist _), (by simp)⟩
    ·
      have hn10 := h.nums
      refine r_cmp rfl rfl rfl rfl ?_
      refine awl_nil ?_
      refine x_then ?_
      refine awp_condF rfl ?_
      refine awp_skip ?_
      refine x_then ?_
      refine awp_seq ?_
      refine awp_seq ?_
      refine awp_region ?_
      refine r_assign rfl rfl ?_
      refine awl_nil ?_
      refine x_then ?_
      refine awp_block ?_
      refine awp_loop (fun nn0 S => ∃ i : Nat, S = ⟨158, [(0, .a (momentsA l)), (1, .a (numsA nums)), (2, .a (u8A not)), (7, .a (.v (.int .i64 ((i : Int)))))], []⟩ ∧ nn0 = nums.length - i ∧ (1 ≤ i) ∧ ((nums.take i).Pairwise (· < ·))) (nums.length - (1)) ⟨158, [(0, .a (momentsA l)), (1, .a (numsA nums)), (2, .a (u8A not)), (7, .a (.v (.int .i64 (((1) : Int)))))], []⟩ ⟨rfl, (Slots.cons rfl (by first | exact .refl _ | exact .nilOwn _ _ | exact .nilSl _ | exact .ownSl _ _ _ | exact SV.le.of_eq (by simp)) (Slots.cons rfl (by first | exact .refl _ | exact .nilOwn _ _ | exact .nilSl _ | exact .ownSl _ _ _ | exact SV.le.of_eq (by simp)) (Slots.cons rfl (by first | exact .refl _ | exact .nilOwn _ _ | exact .nilSl _ | exact .ownSl _ _ _ | exact SV.le.of_eq (by simp)) (Slots.cons rfl (by first | exact .refl _ | exact .nilOwn _ _ | exact .nilSl _ | exact .ownSl _ _ _ | exact SV.le.of_eq (by simp)) Slots.nil)))), (by first | exact List.Sublist.refl _ | exact List.nil_sublist _ | exact .cons _ (.refl _) | exact .cons _ (.cons _ (.refl _)) | exact .cons _ (.cons _ (.cons _ (.refl _))) | exact .cons _ (.cons _ (.cons _ (.cons _ (.refl _)))) | exact .cons_cons _ (List.nil_sublist _))⟩ ⟨1, rfl, rfl, Nat.le_refl _, (by cases nums <;> simp)⟩ ?_
      rintro nn0 _ ⟨i, rfl, rfl, hi, hs⟩
      refine awp_seq ?_
      refine awp_seq ?_
      refine awp_region ?_
      refine r_move rfl rfl ?_
      refine r_move rfl rfl ?_
      first | (refine r_lenS rfl rfl T.sl23 rfl ?_) | (refine r_lenNil rfl T.sl23 rfl ?_)
      refine r_cmp rfl rfl rfl rfl ?_
      refine awl_nil ?_
      refine x_then ?_
      refine awp_cond rfl (fun hc2 => ?_) (fun hc2 => ?_)
      ·
        have hlt : i < nums.length := by have := of_decide_eq_true hc2; simpa using this
        obtain ⟨x, hx⟩ := get_lt hlt
        obtain ⟨y, hy⟩ : ∃ y, nums[i - 1]? = some y := get_lt (by omega)
        refine awp_skip ?_
        refine x_then ?_
        refine awp_seq ?_
        refine awp_block ?_
        refine awp_seq ?_
        refine awp_drawS [38, 39, 40, 41, 42, 43, 44, 45, 46] [_, _, _, _, _, _, _, _, _] [] [] T.mixed rfl rfl rfl ⟨⟨⟨⟨⟨⟨⟨⟨⟨trivial
          , ⟨_, rfl, fun sl hd hr ho => by
              refine r_move (hr 1 _ rfl rfl rfl) rfl ?_
              exact awl_nil ⟨rfl, post_put⟩⟩⟩
          , ⟨_, rfl, fun sl hd hr ho => by
              refine r_move (hr 7 _ rfl rfl rfl) rfl ?_
              exact awl_nil ⟨rfl, post_put⟩⟩⟩
          , ⟨_, rfl, fun sl hd hr ho => by
              refine r_ari _ (hd 1 _ rfl rfl rfl) rfl rfl (wrap_id (by omega)) rfl ?_
              exact awl_nil ⟨rfl, post_put⟩⟩⟩
          , ⟨_, rfl, fun sl hd hr ho => by
              refine r_index (hd 0 _ rfl rfl rfl) rfl (hd 2 _ rfl rfl rfl) T.sl23 T.sz30 (by omega) (by rw [show ((i : Int) - 1).toNat = i - 1 by omega]; exact get_map hy) rfl ?_
              exact awl_nil ⟨rfl, post_put⟩⟩⟩
          , ⟨_, rfl, fun sl hd hr ho => by
              refine r_load1 (hd 3 _ rfl rfl rfl) T.agg30 rfl ?_
              exact awl_nil ⟨rfl, post_put⟩⟩⟩
          , ⟨_, rfl, fun sl hd hr ho => by
              refine r_move (hr 1 _ rfl rfl rfl) rfl ?_
              exact awl_nil ⟨rfl, post_put⟩⟩⟩
          , ⟨_, rfl, fun sl hd hr ho => by
              refine r_move (hr 7 _ rfl rfl rfl) rfl ?_
              exact awl_nil ⟨rfl, post_put⟩⟩⟩
          , ⟨_, rfl, fun sl hd hr ho => by
              refine r_index (hd 5 _ rfl rfl rfl) rfl (hd 6 _ rfl rfl rfl) T.sl23 T.sz30 (by omega) (get_map hx) rfl ?_
              exact awl_nil ⟨rfl, post_put⟩⟩⟩
          , ⟨_, rfl, fun sl hd hr ho => by
              refine r_load1 (hd 7 _ rfl rfl rfl) T.agg30 rfl ?_
              exact awl_nil ⟨rfl, post_put⟩⟩⟩
          (by rfl) ?_
        refine r_cmp rfl rfl rfl rfl ?_
        refine awl_nil ?_
        refine x_then ?_
        refine awp_cond rfl (fun hc3 => ?_) (fun hc3 => ?_)
        ·
          refine awp_seq ?_
          refine awp_region ?_
          refine r_assign rfl rfl ?_
          refine awl_nil ?_
          refine x_then ?_
          refine awp_ret ?_
          refine x_blockR ?_
          refine x_thenR ?_
          refine x_thenR ?_
          refine x_blockR ?_
          refine x_thenR ?_
          exact ⟨(.inl rfl), _, [], (.one (by first | exact .mk rfl rfl | exact .nil rfl)), ⟨rfl, rfl⟩, (List.nil_sublist _), (by simp)⟩
        ·
          refine awp_skip ?_
          refine x_block ?_
          refine x_then ?_
          refine awp_region ?_
          refine r_move rfl rfl ?_
          refine r_ari _ rfl rfl rfl (wrap_id (by omega)) rfl ?_
          refine r_assign rfl rfl ?_
          refine awl_nil ?_
          refine x_then ?_
          refine ⟨nums.length - (i + 1), ⟨158, [(0, .a (momentsA l)), (1, .a (numsA nums)), (2, .a (u8A not)), (7, .a (.v (.int .i64 (((i + 1) : Int)))))], []⟩, ⟨rfl, (Slots.cons rfl (by first | exact .refl _ | exact .nilOwn _ _ | exact .nilSl _ | exact .ownSl _ _ _ | exact SV.le.of_eq (by simp)) (Slots.cons rfl (by first | exact .refl _ | exact .nilOwn _ _ | exact .nilSl _ | exact .ownSl _ _ _ | exact SV.le.of_eq (by simp)) (Slots.cons rfl (by first | exact .refl _ | exact .nilOwn _ _ | exact .nilSl _ | exact .ownSl _ _ _ | exact SV.le.of_eq (by simp)) (Slots.cons rfl (by first | exact .refl _ | exact .nilOwn _ _ | exact .nilSl _ | exact .ownSl _ _ _ | exact SV.le.of_eq (by simp)) Slots.nil)))), (by first | exact List.Sublist.refl _ | exact List.nil_sublist _ | exact .cons _ (.refl _) | exact .cons _ (.cons _ (.refl _)) | exact .cons _ (.cons _ (.cons _ (.refl _))) | exact .cons _ (.cons _ (.cons _ (.cons _ (.refl _)))) | exact .cons_cons _ (List.nil_sublist _))⟩, (by omega), ⟨i + 1, rfl, rfl, (by omega), (rise_step (by omega) hy hx hs (by have := of_decide_eq_false hc3; omega))⟩⟩
      ·
        have hge : nums.length ≤ i := by have := of_decide_eq_false hc2; simp at this; omega
        rw [List.take_of_length_le hge] at hs
        refine awp_exit ?_
        refine x_thenE ?_
        refine x_thenE ?_
        refine x_blockE ?_
        refine x_then ?_
        refine awp_seq ?_
        refine awp_region ?_
        refine r_makeMap (ek := Value.string) (ev := boolA) [] rfl rfl (fun b48 => ?_)
        refine r_assign rfl rfl ?_
        refine awl_nil ?_
        refine x_then ?_
        refine awp_seq ?_
        refine awp_region ?_
        refine r_move rfl rfl ?_
        refine r_call0 rfl rfl (.cons (.ev rfl rfl) .nil) (atf_ok l) rfl T.en12 rfl (fun r hr => ?_)
        obtain rfl := hr
        refine r_assign rfl rfl ?_
        refine awl_nil ?_
        refine x_then ?_
        refine awp_seq ?_
        refine awp_seq ?_
        refine awp_region ?_
        refine r_move rfl rfl ?_
        refine r_move rfl rfl ?_
        refine r_move rfl rfl ?_
        refine r_call0 rfl rfl (.cons (.ev rfl rfl) .nil) (wholef_ok not) rfl T.en15 rfl (fun r hr => ?_)
        obtain rfl := hr
        refine r_call0 rfl rfl (.cons (.ev rfl rfl) (.cons (.ev rfl rfl) (.cons (.ev rfl rfl) .nil))) (plan_whole not rfl h.sane h.look (by omega)) rfl T.en11 rfl (fun r hr => ?_)
        obtain rfl := hr
        have hp : PlanOk not (rplanOf (lookM l) not nums) := plan_facts h.look not (by omega)
        have hnew : ∀ c ∈ rplanOf (lookM l) not nums, NewOk (lookM l) not c.name nums c := fun c hc => new_ok _ _ hs hc
        have hnm := plan_names (lookM l) not nums
        generalize rplanOf (lookM l) not nums = cs at hp hnew hnm ⊢
        have hcl := hp.len
        first | (refine r_lenS rfl rfl T.sl26 rfl ?_) | (refine r_lenNil rfl T.sl26 rfl ?_)
        refine r_move rfl rfl ?_
        refine awl_nil ?_
        refine x_then ?_
        refine awp_block ?_
        refine awp_loop (fun nn0 S => ∃ k : Nat, S = ⟨158, [(1, .a (numsA nums)), (2, .a (u8A not)), (8, .a (.v (.map (some b48)))), (9, .a (.fn 32 [.cp [momentsA l]])), (55, .a (choicesA cs)), (56, .a (.v (.int .i64 ((cs.map Choice.cs).length)))), (57, .a (.v (.int .i64 ((k : Int)))))], [⟨b48, true, .map (encM Value.string boolA ((((cs.take k).map (·.name))).foldl (fun m s => mset m s true) []))⟩]⟩ ∧ nn0 = cs.length - k ∧ (k ≤ cs.length)) (cs.length - (0)) ⟨158, [(1, .a (numsA nums)), (2, .a (u8A not)), (8, .a (.v (.map (some b48)))), (9, .a (.fn 32 [.cp [momentsA l]])), (55, .a (choicesA cs)), (56, .a (.v (.int .i64 ((cs.map Choice.cs).length)))), (57, .a (.v (.int .i64 (((0) : Int)))))], [⟨b48, true, .map (encM Value.string boolA ((((cs.take (0)).map (·.name))).foldl (fun m s => mset m s true) []))⟩]⟩ ⟨rfl, (Slots.cons rfl (by first | exact .refl _ | exact .nilOwn _ _ | exact .nilSl _ | exact .ownSl _ _ _ | exact SV.le.of_eq (by simp)) (Slots.cons rfl (by first | exact .refl _ | exact .nilOwn _ _ | exact .nilSl _ | exact .ownSl _ _ _ | exact SV.le.of_eq (by simp)) (Slots.cons rfl (by first | exact .refl _ | exact .nilOwn _ _ | exact .nilSl _ | exact .ownSl _ _ _ | exact SV.le.of_eq (by simp)) (Slots.cons rfl (by first | exact .refl _ | exact .nilOwn _ _ | exact .nilSl _ | exact .ownSl _ _ _ | exact SV.le.of_eq (by simp)) (Slots.cons rfl (by first | exact .refl _ | exact .nilOwn _ _ | exact .nilSl _ | exact .ownSl _ _ _ | exact SV.le.of_eq (by simp)) (Slots.cons rfl (by first | exact .refl _ | exact .nilOwn _ _ | exact .nilSl _ | exact .ownSl _ _ _ | exact SV.le.of_eq (by simp)) (Slots.cons rfl (by first | exact .refl _ | exact .nilOwn _ _ | exact .nilSl _ | exact .ownSl _ _ _ | exact SV.le.of_eq (by simp)) Slots.nil))))))), (by first | exact List.Sublist.refl _ | exact List.nil_sublist _ | exact .cons _ (.refl _) | exact .cons _ (.cons _ (.refl _)) | exact .cons _ (.cons _ (.cons _ (.refl _))) | exact .cons _ (.cons _ (.cons _ (.cons _ (.refl _)))) | exact .cons_cons _ (List.nil_sublist _))⟩ ⟨0, rfl, rfl, Nat.zero_le _⟩ ?_
        rintro nn0 _ ⟨k, rfl, rfl, hk⟩
        refine awp_seq ?_
        refine awp_region ?_
        refine r_cmp rfl rfl rfl rfl ?_
        refine awl_nil ?_
        refine x_then ?_
        refine awp_seq ?_
        refine awp_cond rfl (fun hc4 => ?_) (fun hc4 => ?_)
        ·
          have hlt : k < cs.length := by have := of_decide_eq_true hc4; simpa using this
          obtain ⟨c, hcx⟩ := get_lt hlt
          have hnc := hnew c (List.mem_of_getElem? hcx)
          have hcd := (hp.size c (List.mem_of_getElem? hcx)).2
          have en : ((((cs.take (k + 1)).map (·.name))).foldl (fun m s => mset m s true) []) = mset ((((cs.take k).map (·.name))).foldl (fun m s => mset m s true) []) c.name true := by rw [map_take hcx, List.foldl_append]; rfl
          refine awp_skip ?_
          refine x_then ?_
          refine awp_seq ?_
          refine awp_block ?_
          refine awp_seq ?_
          refine awp_region ?_
          refine r_move rfl rfl ?_
          refine r_index rfl rfl rfl T.sl26 T.sz33 (by omega) (get_map hcx) rfl ?_
          first | (refine r_loadA rfl T.agg33 T.sz33 rfl rfl ?_) | (refine r_loadAb 0 rfl rfl T.agg33 T.sz33 rfl rfl ?_)
          refine r_alloc T.zero33 rfl (fun b11 => ?_)
          refine r_assign rfl rfl ?_
          first | (refine r_store 0 rfl rfl rfl T.sz33 rfl rfl rfl ?_) | (refine r_store 1 rfl rfl rfl T.sz33 rfl rfl rfl ?_)
          refine awl_nil ?_
          refine x_then ?_
          refine awp_seq ?_
          refine awp_region ?_
          refine r_move rfl rfl ?_
          first | (refine r_fieldcp rfl T.f33_0 T.sz9 rfl ?_) | (refine r_fieldb rfl T.f33_0 T.sz9 rfl ?_)
          first | (refine r_load1 rfl T.agg9 rfl ?_) | (refine r_load1b 0 rfl rfl rfl T.agg9 rfl ?_) | (refine r_load1b 1 rfl rfl rfl T.agg9 rfl ?_)
          first | (refine r_mapUpdate 0 (keyEnc_string T.un9) (ev := boolA) true rfl rfl rfl rfl rfl T.map53 ?_) | (refine r_mapUpdate 1 (keyEnc_string T.un9) (ev := boolA) true rfl rfl rfl rfl rfl T.map53 ?_)
          refine awl_nil ?_
          refine x_then ?_
          refine awp_seq ?_
          refine awp_region ?_
          refine r_move rfl rfl ?_
          refine r_cmp rfl rfl rfl rfl ?_
          refine r_assign rfl rfl ?_
          refine awl_nil ?_
          refine x_then ?_
          refine awp_seq ?_
          refine awp_seq ?_
          refine awp_region ?_
          refine r_move rfl rfl ?_
          first | (refine r_lenS rfl rfl T.sl23 rfl ?_) | (refine r_lenNil rfl T.sl23 rfl ?_)
          refine r_move rfl rfl ?_
          refine awl_nil ?_
          refine x_then ?_
          refine awp_block ?_
          refine awp_loop (fun nn0 S => ∃ j : Nat, S = ⟨158, [(1, .a (numsA nums)), (2, .a (u8A not)), (8, .a (.v (.map (some b48)))), (9, .a (.fn 32 [.cp [momentsA l]])), (55, .a (choicesA cs)), (56, .a (.v (.int .i64 ((cs.map Choice.cs).length)))), (57, .a (.v (.int .i64 ((k : Int))))), (11, .a (.v (.pointer (some ⟨b11, 0, none⟩)))), (12, .a (boolA ((nums.take j).any (hitAt (lookM l) not c)))), (67, .a (numsA nums)), (68, .a (.v (.int .i64 ((nums.map fun x => [AV.v (.int .u64 x)]).length)))), (69, .a (.v (.int .i64 ((j : Int)))))], [⟨b11, true, .box (Choice.cs c)⟩, ⟨b48, true, .map (encM Value.string boolA (mset ((((cs.take k).map (·.name))).foldl (fun m s => mset m s true) []) c.name true))⟩]⟩ ∧ nn0 = nums.length - j ∧ (j ≤ nums.length)) (nums.length - (0)) ⟨158, [(1, .a (numsA nums)), (2, .a (u8A not)), (8, .a (.v (.map (some b48)))), (9, .a (.fn 32 [.cp [momentsA l]])), (55, .a (choicesA cs)), (56, .a (.v (.int .i64 ((cs.map Choice.cs).length)))), (57, .a (.v (.int .i64 ((k : Int))))), (11, .a (.v (.pointer (some ⟨b11, 0, none⟩)))), (12, .a (boolA ((nums.take (0)).any (hitAt (lookM l) not c)))), (67, .a (numsA nums)), (68, .a (.v (.int .i64 ((nums.map fun x => [AV.v (.int .u64 x)]).length)))), (69, .a (.v (.int .i64 (((0) : Int)))))], [⟨b11, true, .box (Choice.cs c)⟩, ⟨b48, true, .map (encM Value.string boolA (mset ((((cs.take k).map (·.name))).foldl (fun m s => mset m s true) []) c.name true))⟩]⟩ ⟨rfl, (Slots.cons rfl (by first | exact .refl _ | exact .nilOwn _ _ | exact .nilSl _ | exact .ownSl _ _ _ | exact SV.le.of_eq (by simp [boolA]; omega)) (Slots.cons rfl (by first | exact .refl _ | exact .nilOwn _ _ | exact .nilSl _ | exact .ownSl _ _ _ | exact SV.le.of_eq (by simp [boolA]; omega)) (Slots.cons rfl (by first | exact .refl _ | exact .nilOwn _ _ | exact .nilSl _ | exact .ownSl _ _ _ | exact SV.le.of_eq (by simp [boolA]; omega)) (Slots.cons rfl (by first | exact .refl _ | exact .nilOwn _ _ | exact .nilSl _ | exact .ownSl _ _ _ | exact SV.le.of_eq (by simp [boolA]; omega)) (Slots.cons rfl (by first | exact .refl _ | exact .nilOwn _ _ | exact .nilSl _ | exact .ownSl _ _ _ | exact SV.le.of_eq (by simp [boolA]; omega)) (Slots.cons rfl (by first | exact .refl _ | exact .nilOwn _ _ | exact .nilSl _ | exact .ownSl _ _ _ | exact SV.le.of_eq (by simp [boolA]; omega)) (Slots.cons rfl (by first | exact .refl _ | exact .nilOwn _ _ | exact .nilSl _ | exact .ownSl _ _ _ | exact SV.le.of_eq (by simp [boolA]; omega)) (Slots.cons rfl (by first | exact .refl _ | exact .nilOwn _ _ | exact .nilSl _ | exact .ownSl _ _ _ | exact SV.le.of_eq (by simp [boolA]; omega)) (Slots.cons rfl (by first | exact .refl _ | exact .nilOwn _ _ | exact .nilSl _ | exact .ownSl _ _ _ | exact SV.le.of_eq (by simp [boolA]; omega)) (Slots.cons rfl (by first | exact .refl _ | exact .nilOwn _ _ | exact .nilSl _ | exact .ownSl _ _ _ | exact SV.le.of_eq (by simp [boolA]; omega)) (Slots.cons rfl (by first | exact .refl _ | exact .nilOwn _ _ | exact .nilSl _ | exact .ownSl _ _ _ | exact SV.le.of_eq (by simp [boolA]; omega)) (Slots.cons rfl (by first | exact .refl _ | exact .nilOwn _ _ | exact .nilSl _ | exact .ownSl _ _ _ | exact SV.le.of_eq (by simp [boolA]; omega)) Slots.nil)))))))))))), (by first | exact List.Sublist.refl _ | exact List.nil_sublist _ | exact .cons _ (.refl _) | exact .cons _ (.cons _ (.refl _)) | exact .cons _ (.cons _ (.cons _ (.refl _))) | exact .cons _ (.cons _ (.cons _ (.cons _ (.refl _)))) | exact .cons_cons _ (List.nil_sublist _))⟩ ⟨0, rfl, rfl, Nat.zero_le _⟩ ?_
          rintro nn0 _ ⟨j, rfl, rfl, hj⟩
          refine awp_seq ?_
          refine awp_region ?_
          refine r_cmp rfl rfl rfl rfl ?_
          refine awl_nil ?_
          refine x_then ?_
          refine awp_seq ?_
          refine awp_cond rfl (fun hc5 => ?_) (fun hc5 => ?_)
          ·
            have hltj : j < nums.length := by have := of_decide_eq_true hc5; simpa using this
            obtain ⟨x, hx⟩ := get_lt hltj
            have e : ((nums.take (j + 1)).any (hitAt (lookM l) not c)) = (((nums.take j).any (hitAt (lookM l) not c)) || hitAt (lookM l) not c x) := by rw [takeS hx, List.any_append]; simp
            have hnow : ((lookM l x).getD []).length ≤ 1000000 ∧ ∀ f ∈ ((lookM l x).getD []), f.data.length ≤ 1000000 := by
              cases hl : lookM l x with
              | none => simp
              | some fs => exact h.look.fs (nums := nums) x (List.mem_of_getElem? hx) fs hl
            refine awp_skip ?_
            refine x_then ?_
            refine awp_seq ?_
            refine awp_block ?_
            refine awp_seq ?_
            refine awp_region ?_
            refine r_index rfl rfl rfl T.sl23 T.sz30 (by omega) (get_map hx) rfl ?_
            first | (refine r_load1 rfl T.agg30 rfl ?_) | (refine r_load1b 0 rfl rfl rfl T.agg30 rfl ?_) | (refine r_load1b 1 rfl rfl rfl T.agg30 rfl ?_)
            refine r_assign rfl rfl ?_
            refine awl_nil ?_
            refine x_then ?_
            refine awp_seq ?_
            refine awp_region ?_
            refine r_move rfl rfl ?_
            refine r_move rfl rfl ?_
            refine r_call0 rfl rfl (.cons (.ev rfl rfl) .nil) (at1_ok l x h.sane) rfl T.en32 rfl (fun r hr => ?_)
            obtain rfl := hr
            rw [atR_eq]
            refine r_move rfl rfl ?_
            refine r_extract rfl rfl rfl ?_
            refine r_extract rfl rfl rfl ?_
            refine r_assign rfl rfl ?_
            refine r_assign rfl rfl ?_
            refine awl_nil ?_
            refine x_then ?_
            refine awp_seq ?_
            refine awp_region ?_
            refine r_move rfl rfl ?_
            first | (refine r_fieldcp rfl T.f33_0 T.sz9 rfl ?_) | (refine r_fieldb rfl T.f33_0 T.sz9 rfl ?_)
            first | (refine r_load1 rfl T.agg9 rfl ?_) | (refine r_load1b 0 rfl rfl rfl T.agg9 rfl ?_) | (refine r_load1b 1 rfl rfl rfl T.agg9 rfl ?_)
            refine r_call0 rfl rfl (.cons (.ev rfl rfl) (.cons (.ev rfl rfl) .nil)) (ffind_ok ((lookM l x).getD []) c.name hnow.1 hnow.2) rfl T.en24 rfl (fun r hr => ?_)
            obtain rfl := hr
            rw [findR_eq]
            change AWL _ _ _ _ _ _ (AState.put _ _ (.a (.tup [File.av (((fileAt (lookM l) c.name x).map fun f => (⟨c.name, f.data⟩ : File)).getD File.zero), boolA (fileAt (lookM l) c.name x).isSome])))
            have hfl : ∀ f, (fileAt (lookM l) c.name x) = some f → f.data.length ≤ 1000000 := fun f hf => hnow.2 f (List.mem_of_find?_eq_some hf)
            refine r_move rfl rfl ?_
            refine r_extract rfl rfl rfl ?_
            refine r_extract rfl rfl rfl ?_
            refine r_alloc T.zero50 rfl (fun b17 => ?_)
            first | (refine r_store 0 rfl rfl rfl T.sz50 rfl rfl rfl ?_) | (refine r_store 1 rfl rfl rfl T.sz50 rfl rfl rfl ?_) | (refine r_store 2 rfl rfl rfl T.sz50 rfl rfl rfl ?_)
            refine r_assign rfl rfl ?_
            refine awl_nil ?_
            refine x_then ?_
            refine awp_seq ?_
            refine awp_seq ?_
            refine awp_region ?_
            refine r_move rfl rfl ?_
            refine r_not rfl rfl ?_
            refine r_move rfl rfl ?_
            refine g_cases (t' := 88) rfl (fun hg88 => ?_) (fun hg88 => ?_)
            ·
              have hl0 : lookM l x = none := by cases hl : lookM l x with | none => rfl | some fs => rw [hl] at hg88; cases hg88
              rw [hitAt, fileAt, hl0] at e
              simp only [Option.getD_none, List.find?_nil, Bool.or_false] at e
              refine g_skip rfl rfl hg88 rfl ?_
              refine g_skip rfl rfl hg88 rfl ?_
              refine r_pickT rfl hg88 rfl rfl ?_
              refine awl_nil ?_
              refine x_then ?_
              refine awp_condT rfl ?_
              refine awp_exit ?_
              refine x_thenE ?_
              refine x_blockE ?_
              refine x_then ?_
              refine awp_region ?_
              refine r_ari _ rfl rfl rfl (wrap_id (by omega)) rfl ?_
              refine r_move rfl rfl ?_
              refine awl_nil ?_
              refine x_then ?_
              refine ⟨nums.length - (j + 1), ⟨158, [(1, .a (numsA nums)), (2, .a (u8A not)), (8, .a (.v (.map (some b48)))), (9, .a (.fn 32 [.cp [momentsA l]])), (55, .a (choicesA cs)), (56, .a (.v (.int .i64 ((cs.map Choice.cs).length)))), (57, .a (.v (.int .i64 ((k : Int))))), (11, .a (.v (.pointer (some ⟨b11, 0, none⟩)))), (12, .a (boolA ((nums.take (j + 1)).any (hitAt (lookM l) not c)))), (67, .a (numsA nums)), (68, .a (.v (.int .i64 ((nums.map fun x => [AV.v (.int .u64 x)]).length)))), (69, .a (.v (.int .i64 (((j + 1) : Int)))))], [⟨b11, true, .box (Choice.cs c)⟩, ⟨b48, true, .map (encM Value.string boolA (mset ((((cs.take k).map (·.name))).foldl (fun m s => mset m s true) []) c.name true))⟩]⟩, ⟨rfl, (Slots.cons rfl (by first | exact .refl _ | exact .nilOwn _ _ | exact .nilSl _ | exact .ownSl _ _ _ | exact SV.le.of_eq (by rw [e] <;> rfl)) (Slots.cons rfl (by first | exact .refl _ | exact .nilOwn _ _ | exact .nilSl _ | exact .ownSl _ _ _ | exact SV.le.of_eq (by rw [e] <;> rfl)) (Slots.cons rfl (by first | exact .refl _ | exact .nilOwn _ _ | exact .nilSl _ | exact .ownSl _ _ _ | exact SV.le.of_eq (by rw [e] <;> rfl)) (Slots.cons rfl (by first | exact .refl _ | exact .nilOwn _ _ | exact .nilSl _ | exact .ownSl _ _ _ | exact SV.le.of_eq (by rw [e] <;> rfl)) (Slots.cons rfl (by first | exact .refl _ | exact .nilOwn _ _ | exact .nilSl _ | exact .ownSl _ _ _ | exact SV.le.of_eq (by rw [e] <;> rfl)) (Slots.cons rfl (by first | exact .refl _ | exact .nilOwn _ _ | exact .nilSl _ | exact .ownSl _ _ _ | exact SV.le.of_eq (by rw [e] <;> rfl)) (Slots.cons rfl (by first | exact .refl _ | exact .nilOwn _ _ | exact .nilSl _ | exact .ownSl _ _ _ | exact SV.le.of_eq (by rw [e] <;> rfl)) (Slots.cons rfl (by first | exact .refl _ | exact .nilOwn _ _ | exact .nilSl _ | exact .ownSl _ _ _ | exact SV.le.of_eq (by rw [e] <;> rfl)) (Slots.cons rfl (by first | exact .refl _ | exact .nilOwn _ _ | exact .nilSl _ | exact .ownSl _ _ _ | exact SV.le.of_eq (by rw [e] <;> rfl)) (Slots.cons rfl (by first | exact .refl _ | exact .nilOwn _ _ | exact .nilSl _ | exact .ownSl _ _ _ | exact SV.le.of_eq (by rw [e] <;> rfl)) (Slots.cons rfl (by first | exact .refl _ | exact .nilOwn _ _ | exact .nilSl _ | exact .ownSl _ _ _ | exact SV.le.of_eq (by rw [e] <;> rfl)) (Slots.cons rfl (by first | exact .refl _ | exact .nilOwn _ _ | exact .nilSl _ | exact .ownSl _ _ _ | exact SV.le.of_eq (by rw [e] <;> rfl)) Slots.nil)))))))))))), (by first | exact List.Sublist.refl _ | exact List.nil_sublist _ | exact .cons _ (.refl _) | exact .cons _ (.cons _ (.refl _)) | exact .cons _ (.cons _ (.cons _ (.refl _))) | exact .cons _ (.cons _ (.cons _ (.cons _ (.refl _)))) | exact .cons_cons _ (List.nil_sublist _))⟩, (by omega), ⟨j + 1, rfl, rfl, (by have := (List.getElem?_eq_some_iff.1 hx).1; omega)⟩⟩
            ·
              refine g_run rfl rfl hg88 ?_
              refine r_move rfl rfl ?_
              refine g_run rfl rfl hg88 ?_
              refine r_not rfl rfl ?_
              refine r_pickF rfl hg88 rfl rfl ?_
              refine awl_nil ?_
              refine x_then ?_
              refine awp_cond rfl (fun hc6 => ?_) (fun hc6 => ?_)
              ·
                have hf0 : (fileAt (lookM l) c.name x) = none := by cases hf : (fileAt (lookM l) c.name x) with | none => rfl | some f => rw [hf] at hc6; cases hc6
                rw [hitAt, hf0] at e
                simp only [Bool.or_false] at e
                refine awp_exit ?_
                refine x_thenE ?_
                refine x_blockE ?_
                refine x_then ?_
                refine awp_region ?_
                refine r_ari _ rfl rfl rfl (wrap_id (by omega)) rfl ?_
                refine r_move rfl rfl ?_
                refine awl_nil ?_
                refine x_then ?_
                refine ⟨nums.length - (j + 1), ⟨158, [(1, .a (numsA nums)), (2, .a (u8A not)), (8, .a (.v (.map (some b48)))), (9, .a (.fn 32 [.cp [momentsA l]])), (55, .a (choicesA cs)), (56, .a (.v (.int .i64 ((cs.map Choice.cs).length)))), (57, .a (.v (.int .i64 ((k : Int))))), (11, .a (.v (.pointer (some ⟨b11, 0, none⟩)))), (12, .a (boolA ((nums.take (j + 1)).any (hitAt (lookM l) not c)))), (67, .a (numsA nums)), (68, .a (.v (.int .i64 ((nums.map fun x => [AV.v (.int .u64 x)]).length)))), (69, .a (.v (.int .i64 (((j + 1) : Int)))))], [⟨b11, true, .box (Choice.cs c)⟩, ⟨b48, true, .map (encM Value.string boolA (mset ((((cs.take k).map (·.name))).foldl (fun m s => mset m s true) []) c.name true))⟩]⟩, ⟨rfl, (Slots.cons rfl (by first | exact .refl _ | exact .nilOwn _ _ | exact .nilSl _ | exact .ownSl _ _ _ | exact SV.le.of_eq (by rw [e] <;> rfl)) (Slots.cons rfl (by first | exact .refl _ | exact .nilOwn _ _ | exact .nilSl _ | exact .ownSl _ _ _ | exact SV.le.of_eq (by rw [e] <;> rfl)) (Slots.cons rfl (by first | exact .refl _ | exact .nilOwn _ _ | exact .nilSl _ | exact .ownSl _ _ _ | exact SV.le.of_eq (by rw [e] <;> rfl)) (Slots.cons rfl (by first | exact .refl _ | exact .nilOwn _ _ | exact .nilSl _ | exact .ownSl _ _ _ | exact SV.le.of_eq (by rw [e] <;> rfl)) (Slots.cons rfl (by first | exact .refl _ | exact .nilOwn _ _ | exact .nilSl _ | exact .ownSl _ _ _ | exact SV.le.of_eq (by rw [e] <;> rfl)) (Slots.cons rfl (by first | exact .refl _ | exact .nilOwn _ _ | exact .nilSl _ | exact .ownSl _ _ _ | exact SV.le.of_eq (by rw [e] <;> rfl)) (Slots.cons rfl (by first | exact .refl _ | exact .nilOwn _ _ | exact .nilSl _ | exact .ownSl _ _ _ | exact SV.le.of_eq (by rw [e] <;> rfl)) (Slots.cons rfl (by first | exact .refl _ | exact .nilOwn _ _ | exact .nilSl _ | exact .ownSl _ _ _ | exact SV.le.of_eq (by rw [e] <;> rfl)) (Slots.cons rfl (by first | exact .refl _ | exact .nilOwn _ _ | exact .nilSl _ | exact .ownSl _ _ _ | exact SV.le.of_eq (by rw [e] <;> rfl)) (Slots.cons rfl (by first | exact .refl _ | exact .nilOwn _ _ | exact .nilSl _ | exact .ownSl _ _ _ | exact SV.le.of_eq (by rw [e] <;> rfl)) (Slots.cons rfl (by first | exact .refl _ | exact .nilOwn _ _ | exact .nilSl _ | exact .ownSl _ _ _ | exact SV.le.of_eq (by rw [e] <;> rfl)) (Slots.cons rfl (by first | exact .refl _ | exact .nilOwn _ _ | exact .nilSl _ | exact .ownSl _ _ _ | exact SV.le.of_eq (by rw [e] <;> rfl)) Slots.nil)))))))))))), (by first | exact List.Sublist.refl _ | exact List.nil_sublist _ | exact .cons _ (.refl _) | exact .cons _ (.cons _ (.refl _)) | exact .cons _ (.cons _ (.cons _ (.refl _))) | exact .cons _ (.cons _ (.cons _ (.cons _ (.refl _)))) | exact .cons_cons _ (List.nil_sublist _))⟩, (by omega), ⟨j + 1, rfl, rfl, (by have := (List.getElem?_eq_some_iff.1 hx).1; omega)⟩⟩
              ·
                obtain ⟨f, hf⟩ : ∃ f, (fileAt (lookM l) c.name x) = some f := by cases hf : (fileAt (lookM l) c.name x) with | none => rw [hf] at hc6; cases hc6 | some f => exact ⟨f, rfl⟩
                rw [hf]
                have hfd := hfl f hf
                have hgood : wholeB not f.data = true → c.whole = true ∧ x ≤ c.moment := fun hw => hnc.last x (List.mem_of_getElem? hx) f.data (by unfold goodAt; rw [hf]; simp [hw])
                rw [hitAt, hf] at e
                simp only at e
                refine awp_skip ?_
                refine x_then ?_
                refine awp_seq ?_
                refine awp_region ?_
                first | (refine r_fieldcp rfl T.f50_1 T.sz31 rfl ?_) | (refine r_fieldb rfl T.f50_1 T.sz31 rfl ?_)
                first | (refine r_load1 rfl T.agg31 rfl ?_) | (refine r_load1b 0 rfl rfl rfl T.agg31 rfl ?_) | (refine r_load1b 1 rfl rfl rfl T.agg31 rfl ?_) | (refine r_load1b 2 rfl rfl rfl T.agg31 rfl ?_)
                refine r_move rfl rfl ?_
                refine r_call0 rfl rfl (.cons (.ev rfl rfl) (.cons (.ev rfl rfl) .nil)) (whole_ok f.data not hfd) rfl T.en21 rfl (fun r hr => ?_)
                obtain rfl := hr
                refine r_assign rfl rfl ?_
                refine awl_nil ?_
                refine x_then ?_
                refine awp_cut (fun S => S = ⟨158, [(1, .a (numsA nums)), (2, .a (u8A not)), (8, .a (.v (.map (some b48)))), (9, .a (.fn 32 [.cp [momentsA l]])), (55, .a (choicesA cs)), (56, .a (.v (.int .i64 ((cs.map Choice.cs).length)))), (57, .a (.v (.int .i64 ((k : Int))))), (11, .a (.v (.pointer (some ⟨b11, 0, none⟩)))), (12, .a (boolA ((nums.take j).any (hitAt (lookM l) not c)))), (67, .a (numsA nums)), (68, .a (.v (.int .i64 ((nums.map fun x => [AV.v (.int .u64 x)]).length)))), (69, .a (.v (.int .i64 ((j : Int))))), (14, .a (.v (.int .u64 x))), (17, .a (.v (.pointer (some ⟨b17, 0, none⟩)))), (19, .a (boolA (wholeB not f.data)))], [⟨b17, true, .box (File.cs ⟨c.name, f.data⟩)⟩, ⟨b11, true, .box (Choice.cs c)⟩, ⟨b48, true, .map (encM Value.string boolA (mset ((((cs.take k).map (·.name))).foldl (fun m s => mset m s true) []) c.name true))⟩]⟩) ?_ ?_
                ·
                  refine awp_seq ?_
                  refine awp_region ?_
                  refine r_move rfl rfl ?_
                  refine r_move rfl rfl ?_
                  refine g_cases (t' := 97) rfl (fun hg97 => ?_) (fun hg97 => ?_)
                  ·
                    obtain ⟨hw1, hw2⟩ := hgood hg97
                    refine g_run rfl rfl hg97 ?_
                    first | (refine r_fieldcp rfl T.f33_2 T.sz4 rfl ?_) | (refine r_fieldb rfl T.f33_2 T.sz4 rfl ?_)
                    refine g_run rfl rfl hg97 ?_
                    first | (refine r_load1 rfl T.agg4 rfl ?_) | (refine r_load1b 0 rfl rfl rfl T.agg4 rfl ?_) | (refine r_load1b 1 rfl rfl rfl T.agg4 rfl ?_) | (refine r_load1b 2 rfl rfl rfl T.agg4 rfl ?_)
                    refine g_run rfl rfl hg97 ?_
                    refine r_not rfl rfl ?_
                    refine g_run rfl rfl hg97 ?_
                    refine r_move rfl rfl ?_
                    refine g_cases (t' := 101) rfl (fun hg101 => ?_) (fun hg101 => ?_)
                    ·
                      rw [hw1] at hg101; cases hg101
                    ·
                      refine g_run rfl rfl hg101 ?_
                      refine r_move rfl rfl ?_
                      refine g_run rfl rfl hg101 ?_
                      first | (refine r_fieldcp rfl T.f33_1 T.sz30 rfl ?_) | (refine r_fieldb rfl T.f33_1 T.sz30 rfl ?_)
                      refine g_run rfl rfl hg101 ?_
                      first | (refine r_load1 rfl T.agg30 rfl ?_) | (refine r_load1b 0 rfl rfl rfl T.agg30 rfl ?_) | (refine r_load1b 1 rfl rfl rfl T.agg30 rfl ?_) | (refine r_load1b 2 rfl rfl rfl T.agg30 rfl ?_)
                      refine g_run rfl rfl hg101 ?_
                      refine r_cmp rfl rfl rfl rfl ?_
                      refine g_run rfl rfl hg97 ?_
                      refine r_pickF rfl hg101 rfl rfl ?_
                      refine r_pickT rfl hg97 rfl rfl ?_
                      refine awl_nil ?_
                      refine x_then ?_
                      refine awp_cond rfl (fun hc7 => ?_) (fun hc7 => ?_)
                      ·
                        exfalso; have := of_decide_eq_true hc7; omega
                      ·
                        refine awp_skip ?_
                        refine x_then ?_
                        refine ⟨⟨158, [(1, .a (numsA nums)), (2, .a (u8A not)), (8, .a (.v (.map (some b48)))), (9, .a (.fn 32 [.cp [momentsA l]])), (55, .a (choicesA cs)), (56, .a (.v (.int .i64 ((cs.map Choice.cs).length)))), (57, .a (.v (.int .i64 ((k : Int))))), (11, .a (.v (.pointer (some ⟨b11, 0, none⟩)))), (12, .a (boolA ((nums.take j).any (hitAt (lookM l) not c)))), (67, .a (numsA nums)), (68, .a (.v (.int .i64 ((nums.map fun x => [AV.v (.int .u64 x)]).length)))), (69, .a (.v (.int .i64 ((j : Int))))), (14, .a (.v (.int .u64 x))), (17, .a (.v (.pointer (some ⟨b17, 0, none⟩)))), (19, .a (boolA (wholeB not f.data)))], [⟨b17, true, .box (File.cs ⟨c.name, f.data⟩)⟩, ⟨b11, true, .box (Choice.cs c)⟩, ⟨b48, true, .map (encM Value.string boolA (mset ((((cs.take k).map (·.name))).foldl (fun m s => mset m s true) []) c.name true))⟩]⟩, ⟨rfl, (Slots.cons rfl (by first | exact .refl _ | exact .nilOwn _ _ | exact .nilSl _ | exact .ownSl _ _ _ | exact SV.le.of_eq (by simp)) (Slots.cons rfl (by first | exact .refl _ | exact .nilOwn _ _ | exact .nilSl _ | exact .ownSl _ _ _ | exact SV.le.of_eq (by simp)) (Slots.cons rfl (by first | exact .refl _ | exact .nilOwn _ _ | exact .nilSl _ | exact .ownSl _ _ _ | exact SV.le.of_eq (by simp)) (Slots.cons rfl (by first | exact .refl _ | exact .nilOwn _ _ | exact .nilSl _ | exact .ownSl _ _ _ | exact SV.le.of_eq (by simp)) (Slots.cons rfl (by first | exact .refl _ | exact .nilOwn _ _ | exact .nilSl _ | exact .ownSl _ _ _ | exact SV.le.of_eq (by simp)) (Slots.cons rfl (by first | exact .refl _ | exact .nilOwn _ _ | exact .nilSl _ | exact .ownSl _ _ _ | exact SV.le.of_eq (by simp)) (Slots.cons rfl (by first | exact .refl _ | exact .nilOwn _ _ | exact .nilSl _ | exact .ownSl _ _ _ | exact SV.le.of_eq (by simp)) (Slots.cons rfl (by first | exact .refl _ | exact .nilOwn _ _ | exact .nilSl _ | exact .ownSl _ _ _ | exact SV.le.of_eq (by simp)) (Slots.cons rfl (by first | exact .refl _ | exact .nilOwn _ _ | exact .nilSl _ | exact .ownSl _ _ _ | exact SV.le.of_eq (by simp)) (Slots.cons rfl (by first | exact .refl _ | exact .nilOwn _ _ | exact .nilSl _ | exact .ownSl _ _ _ | exact SV.le.of_eq (by simp)) (Slots.cons rfl (by first | exact .refl _ | exact .nilOwn _ _ | exact .nilSl _ | exact .ownSl _ _ _ | exact SV.le.of_eq (by simp)) (Slots.cons rfl (by first | exact .refl _ | exact .nilOwn _ _ | exact .nilSl _ | exact .ownSl _ _ _ | exact SV.le.of_eq (by simp)) (Slots.cons rfl (by first | exact .refl _ | exact .nilOwn _ _ | exact .nilSl _ | exact .ownSl _ _ _ | exact SV.le.of_eq (by simp)) (Slots.cons rfl (by first | exact .refl _ | exact .nilOwn _ _ | exact .nilSl _ | exact .ownSl _ _ _ | exact SV.le.of_eq (by simp)) (Slots.cons rfl (by first | exact .refl _ | exact .nilOwn _ _ | exact .nilSl _ | exact .ownSl _ _ _ | exact SV.le.of_eq (by simp)) Slots.nil))))))))))))))), (by first | exact List.Sublist.refl _ | exact List.nil_sublist _ | exact .cons _ (.refl _) | exact .cons _ (.cons _ (.refl _)) | exact .cons _ (.cons _ (.cons _ (.refl _))) | exact .cons _ (.cons _ (.cons _ (.cons _ (.refl _)))) | exact .cons_cons _ (List.nil_sublist _))⟩, rfl⟩
                  ·
                    refine g_skip rfl rfl hg97 rfl ?_
                    refine g_skip rfl rfl hg97 rfl ?_
                    refine g_skip rfl rfl hg97 rfl ?_
                    refine g_skip rfl rfl hg97 rfl ?_
                    refine g_skipU rfl rfl rfl ?_
                    refine g_skipU rfl rfl rfl ?_
                    refine g_skipU rfl rfl rfl ?_
                    refine g_skipU rfl rfl rfl ?_
                    refine g_skip rfl rfl hg97 rfl ?_
                    refine r_pickF rfl hg97 rfl rfl ?_
                    refine awl_nil ?_
                    refine x_then ?_
                    refine awp_condF rfl ?_
                    refine awp_skip ?_
                    refine x_then ?_
                    refine ⟨⟨158, [(1, .a (numsA nums)), (2, .a (u8A not)), (8, .a (.v (.map (some b48)))), (9, .a (.fn 32 [.cp [momentsA l]])), (55, .a (choicesA cs)), (56, .a (.v (.int .i64 ((cs.map Choice.cs).length)))), (57, .a (.v (.int .i64 ((k : Int))))), (11, .a (.v (.pointer (some ⟨b11, 0, none⟩)))), (12, .a (boolA ((nums.take j).any (hitAt (lookM l) not c)))), (67, .a (numsA nums)), (68, .a (.v (.int .i64 ((nums.map fun x => [AV.v (.int .u64 x)]).length)))), (69, .a (.v (.int .i64 ((j : Int))))), (14, .a (.v (.int .u64 x))), (17, .a (.v (.pointer (some ⟨b17, 0, none⟩)))), (19, .a (boolA (wholeB not f.data)))], [⟨b17, true, .box (File.cs ⟨c.name, f.data⟩)⟩, ⟨b11, true, .box (Choice.cs c)⟩, ⟨b48, true, .map (encM Value.string boolA (mset ((((cs.take k).map (·.name))).foldl (fun m s => mset m s true) []) c.name true))⟩]⟩, ⟨rfl, (Slots.cons rfl (by first | exact .refl _ | exact .nilOwn _ _ | exact .nilSl _ | exact .ownSl _ _ _ | exact SV.le.of_eq (by simp)) (Slots.cons rfl (by first | exact .refl _ | exact .nilOwn _ _ | exact .nilSl _ | exact .ownSl _ _ _ | exact SV.le.of_eq (by simp)) (Slots.cons rfl (by first | exact .refl _ | exact .nilOwn _ _ | exact .nilSl _ | exact .ownSl _ _ _ | exact SV.le.of_eq (by simp)) (Slots.cons rfl (by first | exact .refl _ | exact .nilOwn _ _ | exact .nilSl _ | exact .ownSl _ _ _ | exact SV.le.of_eq (by simp)) (Slots.cons rfl (by first | exact .refl _ | exact .nilOwn _ _ | exact .nilSl _ | exact .ownSl _ _ _ | exact SV.le.of_eq (by simp)) (Slots.cons rfl (by first | exact .refl _ | exact .nilOwn _ _ | exact .nilSl _ | exact .ownSl _ _ _ | exact SV.le.of_eq (by simp)) (Slots.cons rfl (by first | exact .refl _ | exact .nilOwn _ _ | exact .nilSl _ | exact .ownSl _ _ _ | exact SV.le.of_eq (by simp)) (Slots.cons rfl (by first | exact .refl _ | exact .nilOwn _ _ | exact .nilSl _ | exact .ownSl _ _ _ | exact SV.le.of_eq (by simp)) (Slots.cons rfl (by first | exact .refl _ | exact .nilOwn _ _ | exact .nilSl _ | exact .ownSl _ _ _ | exact SV.le.of_eq (by simp)) (Slots.cons rfl (by first | exact .refl _ | exact .nilOwn _ _ | exact .nilSl _ | exact .ownSl _ _ _ | exact SV.le.of_eq (by simp)) (Slots.cons rfl (by first | exact .refl _ | exact .nilOwn _ _ | exact .nilSl _ | exact .ownSl _ _ _ | exact SV.le.of_eq (by simp)) (Slots.cons rfl (by first | exact .refl _ | exact .nilOwn _ _ | exact .nilSl _ | exact .ownSl _ _ _ | exact SV.le.of_eq (by simp)) (Slots.cons rfl (by first | exact .refl _ | exact .nilOwn _ _ | exact .nilSl _ | exact .ownSl _ _ _ | exact SV.le.of_eq (by simp)) (Slots.cons rfl (by first | exact .refl _ | exact .nilOwn _ _ | exact .nilSl _ | exact .ownSl _ _ _ | exact SV.le.of_eq (by simp)) (Slots.cons rfl (by first | exact .refl _ | exact .nilOwn _ _ | exact .nilSl _ | exact .ownSl _ _ _ | exact SV.le.of_eq (by simp)) Slots.nil))))))))))))))), (by first | exact List.Sublist.refl _ | exact List.nil_sublist _ | exact .cons _ (.refl _) | exact .cons _ (.cons _ (.refl _)) | exact .cons _ (.cons _ (.cons _ (.refl _))) | exact .cons _ (.cons _ (.cons _ (.cons _ (.refl _)))) | exact .cons_cons _ (List.nil_sublist _))⟩, rfl⟩
                ·
                  rintro _ ⟨rfl⟩
                  refine awp_region ?_
                  refine r_move rfl rfl ?_
                  refine r_move rfl rfl ?_
                  refine g_cases (t' := 109) rfl (fun hg109 => ?_) (fun hg109 => ?_)
                  ·
                    rw [hg109, Bool.true_or] at e
                    refine g_skip rfl rfl hg109 rfl ?_
                    refine g_skip rfl rfl hg109 rfl ?_
                    refine g_skipU rfl rfl rfl ?_
                    refine g_skipU rfl rfl rfl ?_
                    refine g_skipU rfl rfl rfl ?_
                    refine g_skipU rfl rfl rfl ?_
                    refine g_skip rfl rfl hg109 rfl ?_
                    refine g_skip rfl rfl hg109 rfl ?_
                    refine g_skipU rfl rfl rfl ?_
                    refine g_skipU rfl rfl rfl ?_
                    refine g_skipU rfl rfl rfl ?_
                    refine g_skipU rfl rfl rfl ?_
                    refine g_skipU rfl rfl rfl ?_
                    refine g_skipU rfl rfl rfl ?_
                    refine g_skipU rfl rfl rfl ?_
                    refine g_skip rfl rfl hg109 rfl ?_
                    refine r_pickT rfl hg109 rfl rfl ?_
                    refine r_assign rfl rfl ?_
                    refine awl_nil ?_
                    refine x_block ?_
                    refine x_then ?_
                    refine awp_region ?_
                    refine r_ari _ rfl rfl rfl (wrap_id (by omega)) rfl ?_
                    refine r_move rfl rfl ?_
                    refine awl_nil ?_
                    refine x_then ?_
                    refine ⟨nums.length - (j + 1), ⟨158, [(1, .a (numsA nums)), (2, .a (u8A not)), (8, .a (.v (.map (some b48)))), (9, .a (.fn 32 [.cp [momentsA l]])), (55, .a (choicesA cs)), (56, .a (.v (.int .i64 ((cs.map Choice.cs).length)))), (57, .a (.v (.int .i64 ((k : Int))))), (11, .a (.v (.pointer (some ⟨b11, 0, none⟩)))), (12, .a (boolA ((nums.take (j + 1)).any (hitAt (lookM l) not c)))), (67, .a (numsA nums)), (68, .a (.v (.int .i64 ((nums.map fun x => [AV.v (.int .u64 x)]).length)))), (69, .a (.v (.int .i64 (((j + 1) : Int)))))], [⟨b11, true, .box (Choice.cs c)⟩, ⟨b48, true, .map (encM Value.string boolA (mset ((((cs.take k).map (·.name))).foldl (fun m s => mset m s true) []) c.name true))⟩]⟩, ⟨rfl, (Slots.cons rfl (by first | exact .refl _ | exact .nilOwn _ _ | exact .nilSl _ | exact .ownSl _ _ _ | exact SV.le.of_eq (by rw [e] <;> rfl)) (Slots.cons rfl (by first | exact .refl _ | exact .nilOwn _ _ | exact .nilSl _ | exact .ownSl _ _ _ | exact SV.le.of_eq (by rw [e] <;> rfl)) (Slots.cons rfl (by first | exact .refl _ | exact .nilOwn _ _ | exact .nilSl _ | exact .ownSl _ _ _ | exact SV.le.of_eq (by rw [e] <;> rfl)) (Slots.cons rfl (by first | exact .refl _ | exact .nilOwn _ _ | exact .nilSl _ | exact .ownSl _ _ _ | exact SV.le.of_eq (by rw [e] <;> rfl)) (Slots.cons rfl (by first | exact .refl _ | exact .nilOwn _ _ | exact .nilSl _ | exact .ownSl _ _ _ | exact SV.le.of_eq (by rw [e] <;> rfl)) (Slots.cons rfl (by first | exact .refl _ | exact .nilOwn _ _ | exact .nilSl _ | exact .ownSl _ _ _ | exact SV.le.of_eq (by rw [e] <;> rfl)) (Slots.cons rfl (by first | exact .refl _ | exact .nilOwn _ _ | exact .nilSl _ | exact .ownSl _ _ _ | exact SV.le.of_eq (by rw [e] <;> rfl)) (Slots.cons rfl (by first | exact .refl _ | exact .nilOwn _ _ | exact .nilSl _ | exact .ownSl _ _ _ | exact SV.le.of_eq (by rw [e] <;> rfl)) (Slots.cons rfl (by first | exact .refl _ | exact .nilOwn _ _ | exact .nilSl _ | exact .ownSl _ _ _ | exact SV.le.of_eq (by rw [e] <;> rfl)) (Slots.cons rfl (by first | exact .refl _ | exact .nilOwn _ _ | exact .nilSl _ | exact .ownSl _ _ _ | exact SV.le.of_eq (by rw [e] <;> rfl)) (Slots.cons rfl (by first | exact .refl _ | exact .nilOwn _ _ | exact .nilSl _ | exact .ownSl _ _ _ | exact SV.le.of_eq (by rw [e] <;> rfl)) (Slots.cons rfl (by first | exact .refl _ | exact .nilOwn _ _ | exact .nilSl _ | exact .ownSl _ _ _ | exact SV.le.of_eq (by rw [e] <;> rfl)) Slots.nil)))))))))))), (by first | exact List.Sublist.refl _ | exact List.nil_sublist _ | exact .cons _ (.refl _) | exact .cons _ (.cons _ (.refl _)) | exact .cons _ (.cons _ (.cons _ (.refl _))) | exact .cons _ (.cons _ (.cons _ (.cons _ (.refl _)))) | exact .cons_cons _ (List.nil_sublist _))⟩, (by omega), ⟨j + 1, rfl, rfl, (by have := (List.getElem?_eq_some_iff.1 hx).1; omega)⟩⟩
                  ·
                    rw [hg109, Bool.false_or] at e
                    refine g_run rfl rfl hg109 ?_
                    refine r_move rfl rfl ?_
                    refine g_run rfl rfl hg109 ?_
                    refine r_move rfl rfl ?_
                    refine g_cases (t' := 111) rfl (fun hg111 => ?_) (fun hg111 => ?_)
                    ·
                      rw [hg111, Bool.true_and] at e
                      refine g_run rfl rfl hg111 ?_
                      refine r_move rfl rfl ?_
                      refine g_run rfl rfl hg111 ?_
                      first | (refine r_fieldcp rfl T.f33_1 T.sz30 rfl ?_) | (refine r_fieldb rfl T.f33_1 T.sz30 rfl ?_)
                      refine g_run rfl rfl hg111 ?_
                      first | (refine r_load1 rfl T.agg30 rfl ?_) | (refine r_load1b 0 rfl rfl rfl T.agg30 rfl ?_) | (refine r_load1b 1 rfl rfl rfl T.agg30 rfl ?_) | (refine r_load1b 2 rfl rfl rfl T.agg30 rfl ?_)
                      refine g_run rfl rfl hg111 ?_
                      refine r_cmp rfl rfl rfl rfl ?_
                      refine g_run rfl rfl hg109 ?_
                      refine r_pickT rfl hg111 rfl rfl ?_
                      refine g_run rfl rfl hg109 ?_
                      refine r_move rfl rfl ?_
                      refine g_cases (t' := 117) rfl (fun hg117 => ?_) (fun hg117 => ?_)
                      ·
                        rw [hg117, Bool.true_and] at e
                        refine g_run rfl rfl hg117 ?_
                        first | (refine r_fieldcp rfl T.f50_1 T.sz31 rfl ?_) | (refine r_fieldb rfl T.f50_1 T.sz31 rfl ?_)
                        refine g_run rfl rfl hg117 ?_
                        first | (refine r_load1 rfl T.agg31 rfl ?_) | (refine r_load1b 0 rfl rfl rfl T.agg31 rfl ?_) | (refine r_load1b 1 rfl rfl rfl T.agg31 rfl ?_) | (refine r_load1b 2 rfl rfl rfl T.agg31 rfl ?_)
                        refine g_run rfl rfl hg117 ?_
                        refine r_convBS f.data rfl rfl T.sl31 T.un5 T.un9 rfl ?_
                        refine g_run rfl rfl hg117 ?_
                        first | (refine r_fieldcp rfl T.f33_3 T.sz31 rfl ?_) | (refine r_fieldb rfl T.f33_3 T.sz31 rfl ?_)
                        refine g_run rfl rfl hg117 ?_
                        first | (refine r_load1 rfl T.agg31 rfl ?_) | (refine r_load1b 0 rfl rfl rfl T.agg31 rfl ?_) | (refine r_load1b 1 rfl rfl rfl T.agg31 rfl ?_) | (refine r_load1b 2 rfl rfl rfl T.agg31 rfl ?_)
                        refine g_run rfl rfl hg117 ?_
                        refine r_convBS c.data rfl rfl T.sl31 T.un5 T.un9 rfl ?_
                        refine g_run rfl rfl hg117 ?_
                        refine r_str2 rfl rfl rfl rfl ?_
                        refine g_run rfl rfl hg109 ?_
                        refine r_pickT rfl hg117 rfl rfl ?_
                        refine r_pickF rfl hg109 rfl rfl ?_
                        refine r_assign rfl rfl ?_
                        refine awl_nil ?_
                        refine x_block ?_
                        refine x_then ?_
                        refine awp_region ?_
                        refine r_ari _ rfl rfl rfl (wrap_id (by omega)) rfl ?_
                        refine r_move rfl rfl ?_
                        refine awl_nil ?_
                        refine x_then ?_
                        refine ⟨nums.length - (j + 1), ⟨158, [(1, .a (numsA nums)), (2, .a (u8A not)), (8, .a (.v (.map (some b48)))), (9, .a (.fn 32 [.cp [momentsA l]])), (55, .a (choicesA cs)), (56, .a (.v (.int .i64 ((cs.map Choice.cs).length)))), (57, .a (.v (.int .i64 ((k : Int))))), (11, .a (.v (.pointer (some ⟨b11, 0, none⟩)))), (12, .a (boolA ((nums.take (j + 1)).any (hitAt (lookM l) not c)))), (67, .a (numsA nums)), (68, .a (.v (.int .i64 ((nums.map fun x => [AV.v (.int .u64 x)]).length)))), (69, .a (.v (.int .i64 (((j + 1) : Int)))))], [⟨b11, true, .box (Choice.cs c)⟩, ⟨b48, true, .map (encM Value.string boolA (mset ((((cs.take k).map (·.name))).foldl (fun m s => mset m s true) []) c.name true))⟩]⟩, ⟨rfl, (Slots.cons rfl (by first | exact .refl _ | exact .nilOwn _ _ | exact .nilSl _ | exact .ownSl _ _ _ | exact SV.le.of_eq (by rw [e] <;> rfl)) (Slots.cons rfl (by first | exact .refl _ | exact .nilOwn _ _ | exact .nilSl _ | exact .ownSl _ _ _ | exact SV.le.of_eq (by rw [e] <;> rfl)) (Slots.cons rfl (by first | exact .refl _ | exact .nilOwn _ _ | exact .nilSl _ | exact .ownSl _ _ _ | exact SV.le.of_eq (by rw [e] <;> rfl)) (Slots.cons rfl (by first | exact .refl _ | exact .nilOwn _ _ | exact .nilSl _ | exact .ownSl _ _ _ | exact SV.le.of_eq (by rw [e] <;> rfl)) (Slots.cons rfl (by first | exact .refl _ | exact .nilOwn _ _ | exact .nilSl _ | exact .ownSl _ _ _ | exact SV.le.of_eq (by rw [e] <;> rfl)) (Slots.cons rfl (by first | exact .refl _ | exact .nilOwn _ _ | exact .nilSl _ | exact .ownSl _ _ _ | exact SV.le.of_eq (by rw [e] <;> rfl)) (Slots.cons rfl (by first | exact .refl _ | exact .nilOwn _ _ | exact .nilSl _ | exact .ownSl _ _ _ | exact SV.le.of_eq (by rw [e] <;> rfl)) (Slots.cons rfl (by first | exact .refl _ | exact .nilOwn _ _ | exact .nilSl _ | exact .ownSl _ _ _ | exact SV.le.of_eq (by rw [e] <;> rfl)) (Slots.cons rfl (by first | exact .refl _ | exact .nilOwn _ _ | exact .nilSl _ | exact .ownSl _ _ _ | exact SV.le.of_eq (by rw [e] <;> rfl)) (Slots.cons rfl (by first | exact .refl _ | exact .nilOwn _ _ | exact .nilSl _ | exact .ownSl _ _ _ | exact SV.le.of_eq (by rw [e] <;> rfl)) (Slots.cons rfl (by first | exact .refl _ | exact .nilOwn _ _ | exact .nilSl _ | exact .ownSl _ _ _ | exact SV.le.of_eq (by rw [e] <;> rfl)) (Slots.cons rfl (by first | exact .refl _ | exact .nilOwn _ _ | exact .nilSl _ | exact .ownSl _ _ _ | exact SV.le.of_eq (by rw [e] <;> rfl)) Slots.nil)))))))))))), (by first | exact List.Sublist.refl _ | exact List.nil_sublist _ | exact .cons _ (.refl _) | exact .cons _ (.cons _ (.refl _)) | exact .cons _ (.cons _ (.cons _ (.refl _))) | exact .cons _ (.cons _ (.cons _ (.cons _ (.refl _)))) | exact .cons_cons _ (List.nil_sublist _))⟩, (by omega), ⟨j + 1, rfl, rfl, (by have := (List.getElem?_eq_some_iff.1 hx).1; omega)⟩⟩
                      ·
                        rw [hg117, Bool.false_and] at e
                        refine g_skip rfl rfl hg117 rfl ?_
                        refine g_skip rfl rfl hg117 rfl ?_
                        refine g_skip rfl rfl hg117 rfl ?_
                        refine g_skip rfl rfl hg117 rfl ?_
                        refine g_skip rfl rfl hg117 rfl ?_
                        refine g_skip rfl rfl hg117 rfl ?_
                        refine g_skip rfl rfl hg117 rfl ?_
                        refine g_run rfl rfl hg109 ?_
                        refine r_pickF rfl hg117 rfl rfl ?_
                        refine r_pickF rfl hg109 rfl rfl ?_
                        refine r_assign rfl rfl ?_
                        refine awl_nil ?_
                        refine x_block ?_
                        refine x_then ?_
                        refine awp_region ?_
                        refine r_ari _ rfl rfl rfl (wrap_id (by omega)) rfl ?_
                        refine r_move rfl rfl ?_
                        refine awl_nil ?_
                        refine x_then ?_
                        refine ⟨nums.length - (j + 1), ⟨158, [(1, .a (numsA nums)), (2, .a (u8A not)), (8, .a (.v (.map (some b48)))), (9, .a (.fn 32 [.cp [momentsA l]])), (55, .a (choicesA cs)), (56, .a (.v (.int .i64 ((cs.map Choice.cs).length)))), (57, .a (.v (.int .i64 ((k : Int))))), (11, .a (.v (.pointer (some ⟨b11, 0, none⟩)))), (12, .a (boolA ((nums.take (j + 1)).any (hitAt (lookM l) not c)))), (67, .a (numsA nums)), (68, .a (.v (.int .i64 ((nums.map fun x => [AV.v (.int .u64 x)]).length)))), (69, .a (.v (.int .i64 (((j + 1) : Int)))))], [⟨b11, true, .box (Choice.cs c)⟩, ⟨b48, true, .map (encM Value.string boolA (mset ((((cs.take k).map (·.name))).foldl (fun m s => mset m s true) []) c.name true))⟩]⟩, ⟨rfl, (Slots.cons rfl (by first | exact .refl _ | exact .nilOwn _ _ | exact .nilSl _ | exact .ownSl _ _ _ | exact SV.le.of_eq (by rw [e] <;> rfl)) (Slots.cons rfl (by first | exact .refl _ | exact .nilOwn _ _ | exact .nilSl _ | exact .ownSl _ _ _ | exact SV.le.of_eq (by rw [e] <;> rfl)) (Slots.cons rfl (by first | exact .refl _ | exact .nilOwn _ _ | exact .nilSl _ | exact .ownSl _ _ _ | exact SV.le.of_eq (by rw [e] <;> rfl)) (Slots.cons rfl (by first | exact .refl _ | exact .nilOwn _ _ | exact .nilSl _ | exact .ownSl _ _ _ | exact SV.le.of_eq (by rw [e] <;> rfl)) (Slots.cons rfl (by first | exact .refl _ | exact .nilOwn _ _ | exact .nilSl _ | exact .ownSl _ _ _ | exact SV.le.of_eq (by rw [e] <;> rfl)) (Slots.cons rfl (by first | exact .refl _ | exact .nilOwn _ _ | exact .nilSl _ | exact .ownSl _ _ _ | exact SV.le.of_eq (by rw [e] <;> rfl)) (Slots.cons rfl (by first | exact .refl _ | exact .nilOwn _ _ | exact .nilSl _ | exact .ownSl _ _ _ | exact SV.le.of_eq (by rw [e] <;> rfl)) (Slots.cons rfl (by first | exact .refl _ | exact .nilOwn _ _ | exact .nilSl _ | exact .ownSl _ _ _ | exact SV.le.of_eq (by rw [e] <;> rfl)) (Slots.cons rfl (by first | exact .refl _ | exact .nilOwn _ _ | exact .nilSl _ | exact .ownSl _ _ _ | exact SV.le.of_eq (by rw [e] <;> rfl)) (Slots.cons rfl (by first | exact .refl _ | exact .nilOwn _ _ | exact .nilSl _ | exact .ownSl _ _ _ | exact SV.le.of_eq (by rw [e] <;> rfl)) (Slots.cons rfl (by first | exact .refl _ | exact .nilOwn _ _ | exact .nilSl _ | exact .ownSl _ _ _ | exact SV.le.of_eq (by rw [e] <;> rfl)) (Slots.cons rfl (by first | exact .refl _ | exact .nilOwn _ _ | exact .nilSl _ | exact .ownSl _ _ _ | exact SV.le.of_eq (by rw [e] <;> rfl)) Slots.nil)))))))))))), (by first | exact List.Sublist.refl _ | exact List.nil_sublist _ | exact .cons _ (.refl _) | exact .cons _ (.cons _ (.refl _)) | exact .cons _ (.cons _ (.cons _ (.refl _))) | exact .cons _ (.cons _ (.cons _ (.cons _ (.refl _)))) | exact .cons_cons _ (List.nil_sublist _))⟩, (by omega), ⟨j + 1, rfl, rfl, (by have := (List.getElem?_eq_some_iff.1 hx).1; omega)⟩⟩
                    ·
                      rw [hg111, Bool.false_and] at e
                      refine g_skip rfl rfl hg111 rfl ?_
                      refine g_skip rfl rfl hg111 rfl ?_
                      refine g_skip rfl rfl hg111 rfl ?_
                      refine g_skip rfl rfl hg111 rfl ?_
                      refine g_run rfl rfl hg109 ?_
                      refine r_pickF rfl hg111 rfl rfl ?_
                      refine g_run rfl rfl hg109 ?_
                      refine r_move rfl rfl ?_
                      refine g_skip rfl rfl rfl rfl ?_
                      refine g_skip rfl rfl rfl rfl ?_
                      refine g_skip rfl rfl rfl rfl ?_
                      refine g_skip rfl rfl rfl rfl ?_
                      refine g_skip rfl rfl rfl rfl ?_
                      refine g_skip rfl rfl rfl rfl ?_
                      refine g_skip rfl rfl rfl rfl ?_
                      refine g_run rfl rfl hg109 ?_
                      refine r_pickF rfl rfl rfl rfl ?_
                      refine r_pickF rfl hg109 rfl rfl ?_
                      refine r_assign rfl rfl ?_
                      refine awl_nil ?_
                      refine x_block ?_
                      refine x_then ?_
                      refine awp_region ?_
                      refine r_ari _ rfl rfl rfl (wrap_id (by omega)) rfl ?_
                      refine r_move rfl rfl ?_
                      refine awl_nil ?_
                      refine x_then ?_
                      refine ⟨nums.length - (j + 1), ⟨158, [(1, .a (numsA nums)), (2, .a (u8A not)), (8, .a (.v (.map (some b48)))), (9, .a (.fn 32 [.cp [momentsA l]])), (55, .a (choicesA cs)), (56, .a (.v (.int .i64 ((cs.map Choice.cs).length)))), (57, .a (.v (.int .i64 ((k : Int))))), (11, .a (.v (.pointer (some ⟨b11, 0, none⟩)))), (12, .a (boolA ((nums.take (j + 1)).any (hitAt (lookM l) not c)))), (67, .a (numsA nums)), (68, .a (.v (.int .i64 ((nums.map fun x => [AV.v (.int .u64 x)]).length)))), (69, .a (.v (.int .i64 (((j + 1) : Int)))))], [⟨b11, true, .box (Choice.cs c)⟩, ⟨b48, true, .map (encM Value.string boolA (mset ((((cs.take k).map (·.name))).foldl (fun m s => mset m s true) []) c.name true))⟩]⟩, ⟨rfl, (Slots.cons rfl (by first | exact .refl _ | exact .nilOwn _ _ | exact .nilSl _ | exact .ownSl _ _ _ | exact SV.le.of_eq (by rw [e] <;> rfl)) (Slots.cons rfl (by first | exact .refl _ | exact .nilOwn _ _ | exact .nilSl _ | exact .ownSl _ _ _ | exact SV.le.of_eq (by rw [e] <;> rfl)) (Slots.cons rfl (by first | exact .refl _ | exact .nilOwn _ _ | exact .nilSl _ | exact .ownSl _ _ _ | exact SV.le.of_eq (by rw [e] <;> rfl)) (Slots.cons rfl (by first | exact .refl _ | exact .nilOwn _ _ | exact .nilSl _ | exact .ownSl _ _ _ | exact SV.le.of_eq (by rw [e] <;> rfl)) (Slots.cons rfl (by first | exact .refl _ | exact .nilOwn _ _ | exact .nilSl _ | exact .ownSl _ _ _ | exact SV.le.of_eq (by rw [e] <;> rfl)) (Slots.cons rfl (by first | exact .refl _ | exact .nilOwn _ _ | exact .nilSl _ | exact .ownSl _ _ _ | exact SV.le.of_eq (by rw [e] <;> rfl)) (Slots.cons rfl (by first | exact .refl _ | exact .nilOwn _ _ | exact .nilSl _ | exact .ownSl _ _ _ | exact SV.le.of_eq (by rw [e] <;> rfl)) (Slots.cons rfl (by first | exact .refl _ | exact .nilOwn _ _ | exact .nilSl _ | exact .ownSl _ _ _ | exact SV.le.of_eq (by rw [e] <;> rfl)) (Slots.cons rfl (by first | exact .refl _ | exact .nilOwn _ _ | exact .nilSl _ | exact .ownSl _ _ _ | exact SV.le.of_eq (by rw [e] <;> rfl)) (Slots.cons rfl (by first | exact .refl _ | exact .nilOwn _ _ | exact .nilSl _ | exact .ownSl _ _ _ | exact SV.le.of_eq (by rw [e] <;> rfl)) (Slots.cons rfl (by first | exact .refl _ | exact .nilOwn _ _ | exact .nilSl _ | exact .ownSl _ _ _ | exact SV.le.of_eq (by rw [e] <;> rfl)) (Slots.cons rfl (by first | exact .refl _ | exact .nilOwn _ _ | exact .nilSl _ | exact .ownSl _ _ _ | exact SV.le.of_eq (by rw [e] <;> rfl)) Slots.nil)))))))))))), (by first | exact List.Sublist.refl _ | exact List.nil_sublist _ | exact .cons _ (.refl _) | exact .cons _ (.cons _ (.refl _)) | exact .cons _ (.cons _ (.cons _ (.refl _))) | exact .cons _ (.cons _ (.cons _ (.cons _ (.refl _)))) | exact .cons_cons _ (List.nil_sublist _))⟩, (by omega), ⟨j + 1, rfl, rfl, (by have := (List.getElem?_eq_some_iff.1 hx).1; omega)⟩⟩
          ·
            have hgej : nums.length ≤ j := by have := of_decide_eq_false hc5; simp at this; omega
            rw [List.take_of_length_le hgej, hit_all hnc]
            refine awp_exit ?_
            refine x_thenE ?_
            refine x_thenE ?_
            refine x_blockE ?_
            refine x_then ?_
            refine awp_seq ?_
            refine awp_region ?_
            first | (refine r_fieldcp rfl T.f33_2 T.sz4 rfl ?_) | (refine r_fieldb rfl T.f33_2 T.sz4 rfl ?_)
            first | (refine r_load1 rfl T.agg4 rfl ?_) | (refine r_load1b 0 rfl rfl rfl T.agg4 rfl ?_) | (refine r_load1b 1 rfl rfl rfl T.agg4 rfl ?_)
            refine r_move rfl rfl ?_
            refine r_bne rfl rfl T.un4 rfl ?_
            refine awl_nil ?_
            refine x_then ?_
            refine awp_cond rfl (fun hc8 => ?_) (fun hc8 => ?_)
            ·
              exfalso; simp at hc8
            ·
              refine awp_skip ?_
              refine x_block ?_
              refine x_then ?_
              refine awp_region ?_
              refine r_ari _ rfl rfl rfl (wrap_id (by omega)) rfl ?_
              refine r_move rfl rfl ?_
              refine awl_nil ?_
              refine x_then ?_
              refine ⟨cs.length - (k + 1), ⟨158, [(1, .a (numsA nums)), (2, .a (u8A not)), (8, .a (.v (.map (some b48)))), (9, .a (.fn 32 [.cp [momentsA l]])), (55, .a (choicesA cs)), (56, .a (.v (.int .i64 ((cs.map Choice.cs).length)))), (57, .a (.v (.int .i64 (((k + 1) : Int)))))], [⟨b48, true, .map (encM Value.string boolA ((((cs.take (k + 1)).map (·.name))).foldl (fun m s => mset m s true) []))⟩]⟩, ⟨rfl, (Slots.cons rfl (by first | exact .refl _ | exact .nilOwn _ _ | exact .nilSl _ | exact .ownSl _ _ _ | exact SV.le.of_eq (by simp)) (Slots.cons rfl (by first | exact .refl _ | exact .nilOwn _ _ | exact .nilSl _ | exact .ownSl _ _ _ | exact SV.le.of_eq (by simp)) (Slots.cons rfl (by first | exact .refl _ | exact .nilOwn _ _ | exact .nilSl _ | exact .ownSl _ _ _ | exact SV.le.of_eq (by simp)) (Slots.cons rfl (by first | exact .refl _ | exact .nilOwn _ _ | exact .nilSl _ | exact .ownSl _ _ _ | exact SV.le.of_eq (by simp)) (Slots.cons rfl (by first | exact .refl _ | exact .nilOwn _ _ | exact .nilSl _ | exact .ownSl _ _ _ | exact SV.le.of_eq (by simp)) (Slots.cons rfl (by first | exact .refl _ | exact .nilOwn _ _ | exact .nilSl _ | exact .ownSl _ _ _ | exact SV.le.of_eq (by simp)) (Slots.cons rfl (by first | exact .refl _ | exact .nilOwn _ _ | exact .nilSl _ | exact .ownSl _ _ _ | exact SV.le.of_eq (by simp)) Slots.nil))))))), (by rw [en]; first | exact List.Sublist.refl _ | exact List.nil_sublist _ | exact .cons _ (.refl _) | exact .cons _ (.cons _ (.refl _)) | exact .cons _ (.cons _ (.cons _ (.refl _))) | exact .cons _ (.cons _ (.cons _ (.cons _ (.refl _)))) | exact .cons_cons _ (List.nil_sublist _))⟩, (by omega), ⟨k + 1, rfl, rfl, (by have := (List.getElem?_eq_some_iff.1 hcx).1; omega)⟩⟩
        ·
          have hge2 : cs.length ≤ k := by have := of_decide_eq_false hc4; simp at this; omega
          have hkl : cs.take k = cs := List.take_of_length_le hge2
          rw [hkl, hnm]
          refine awp_exit ?_
          refine x_thenE ?_
          refine x_thenE ?_
          refine x_blockE ?_
          refine x_then ?_
          refine awp_seq ?_
          refine awp_seq ?_
          refine awp_region ?_
          refine r_move rfl rfl ?_
          first | (refine r_lenS rfl rfl T.sl23 rfl ?_) | (refine r_lenNil rfl T.sl23 rfl ?_)
          refine r_move rfl rfl ?_
          refine awl_nil ?_
          refine x_then ?_
          refine awp_block ?_
          refine awp_loop (fun nn0 S => ∃ k : Nat, S = ⟨158, [(8, .a (.v (.map (some b48)))), (9, .a (.fn 32 [.cp [momentsA l]])), (133, .a (numsA nums)), (134, .a (.v (.int .i64 ((nums.map fun x => [AV.v (.int .u64 x)]).length)))), (135, .a (.v (.int .i64 ((k : Int)))))], [⟨b48, true, .map (encM Value.string boolA ((namesOf (lookM l) nums).foldl (fun m s => mset m s true) []))⟩]⟩ ∧ nn0 = nums.length - k ∧ (k ≤ nums.length)) (nums.length - (0)) ⟨158, [(8, .a (.v (.map (some b48)))), (9, .a (.fn 32 [.cp [momentsA l]])), (133, .a (numsA nums)), (134, .a (.v (.int .i64 ((nums.map fun x => [AV.v (.int .u64 x)]).length)))), (135, .a (.v (.int .i64 (((0) : Int)))))], [⟨b48, true, .map (encM Value.string boolA ((namesOf (lookM l) nums).foldl (fun m s => mset m s true) []))⟩]⟩ ⟨rfl, (Slots.cons rfl (by first | exact .refl _ | exact .nilOwn _ _ | exact .nilSl _ | exact .ownSl _ _ _ | exact SV.le.of_eq (by simp)) (Slots.cons rfl (by first | exact .refl _ | exact .nilOwn _ _ | exact .nilSl _ | exact .ownSl _ _ _ | exact SV.le.of_eq (by simp)) (Slots.cons rfl (by first | exact .refl _ | exact .nilOwn _ _ | exact .nilSl _ | exact .ownSl _ _ _ | exact SV.le.of_eq (by simp)) (Slots.cons rfl (by first | exact .refl _ | exact .nilOwn _ _ | exact .nilSl _ | exact .ownSl _ _ _ | exact SV.le.of_eq (by simp)) (Slots.cons rfl (by first | exact .refl _ | exact .nilOwn _ _ | exact .nilSl _ | exact .ownSl _ _ _ | exact SV.le.of_eq (by simp)) Slots.nil))))), (by first | exact List.Sublist.refl _ | exact List.nil_sublist _ | exact .cons _ (.refl _) | exact .cons _ (.cons _ (.refl _)) | exact .cons _ (.cons _ (.cons _ (.refl _))) | exact .cons _ (.cons _ (.cons _ (.cons _ (.refl _)))) | exact .cons_cons _ (List.nil_sublist _))⟩ ⟨0, rfl, rfl, Nat.zero_le _⟩ ?_
          rintro nn0 _ ⟨k, rfl, rfl, hk⟩
          refine awp_seq ?_
          refine awp_region ?_
          refine r_cmp rfl rfl rfl rfl ?_
          refine awl_nil ?_
          refine x_then ?_
          refine awp_seq ?_
          refine awp_cond rfl (fun hc9 => ?_) (fun hc9 => ?_)
          ·
            have hlt : k < nums.length := by have := of_decide_eq_true hc9; simpa using this
            obtain ⟨x, hx⟩ := get_lt hlt
            have hin : ∀ f ∈ ((lookM l x).getD []), f.name ∈ namesOf (lookM l) nums := by
              intro f hf
              cases hl : lookM l x with
              | none => rw [hl] at hf; simp at hf
              | some fs => rw [hl] at hf; rw [names_memO]; exact ⟨x, List.mem_of_getElem? hx, fs, hl, f, hf, rfl⟩
            have hnow : ((lookM l x).getD []).length ≤ 1000000 := by
              cases hl : lookM l x with
              | none => simp
              | some fs => exact (h.look.fs (nums := nums) x (List.mem_of_getElem? hx) fs hl).1
            refine awp_skip ?_
            refine x_then ?_
            refine awp_seq ?_
            refine awp_block ?_
            refine awp_seq ?_
            refine awp_region ?_
            refine r_index rfl rfl rfl T.sl23 T.sz30 (by omega) (get_map hx) rfl ?_
            first | (refine r_load1 rfl T.agg30 rfl ?_) | (refine r_load1b 0 rfl rfl rfl T.agg30 rfl ?_)
            refine r_assign rfl rfl ?_
            refine awl_nil ?_
            refine x_then ?_
            refine awp_seq ?_
            refine awp_region ?_
            refine r_move rfl rfl ?_
            refine r_move rfl rfl ?_
            refine r_call0 rfl rfl (.cons (.ev rfl rfl) .nil) (at1_ok l x h.sane) rfl T.en32 rfl (fun r hr => ?_)
            obtain rfl := hr
            rw [atR_eq]
            generalize ((lookM l x).getD []) = fs at hin hnow ⊢
            refine r_move rfl rfl ?_
            refine r_extract rfl rfl rfl ?_
            refine r_extract rfl rfl rfl ?_
            refine r_assign rfl rfl ?_
            refine r_assign rfl rfl ?_
            refine awl_nil ?_
            refine x_then ?_
            refine awp_seq ?_
            refine awp_region ?_
            refine r_move rfl rfl ?_
            first | (refine r_lenS rfl rfl T.sl41 rfl ?_) | (refine r_lenNil rfl T.sl41 rfl ?_)
            refine r_move rfl rfl ?_
            refine awl_nil ?_
            refine x_then ?_
            refine awp_block ?_
            refine awp_loop (fun nn0 S => ∃ j : Nat, S = ⟨158, [(8, .a (.v (.map (some b48)))), (9, .a (.fn 32 [.cp [momentsA l]])), (133, .a (numsA nums)), (134, .a (.v (.int .i64 ((nums.map fun x => [AV.v (.int .u64 x)]).length)))), (135, .a (.v (.int .i64 ((k : Int))))), (145, .a (files fs)), (146, .a (.v (.int .i64 ((fs.map File.cs).length)))), (147, .a (.v (.int .i64 ((j : Int)))))], [⟨b48, true, .map (encM Value.string boolA ((namesOf (lookM l) nums).foldl (fun m s => mset m s true) []))⟩]⟩ ∧ nn0 = fs.length - j ∧ (j ≤ fs.length)) (fs.length - (0)) ⟨158, [(8, .a (.v (.map (some b48)))), (9, .a (.fn 32 [.cp [momentsA l]])), (133, .a (numsA nums)), (134, .a (.v (.int .i64 ((nums.map fun x => [AV.v (.int .u64 x)]).length)))), (135, .a (.v (.int .i64 ((k : Int))))), (145, .a (files fs)), (146, .a (.v (.int .i64 ((fs.map File.cs).length)))), (147, .a (.v (.int .i64 (((0) : Int)))))], [⟨b48, true, .map (encM Value.string boolA ((namesOf (lookM l) nums).foldl (fun m s => mset m s true) []))⟩]⟩ ⟨rfl, (Slots.cons rfl (by first | exact .refl _ | exact .nilOwn _ _ | exact .nilSl _ | exact .ownSl _ _ _ | exact SV.le.of_eq (by simp)) (Slots.cons rfl (by first | exact .refl _ | exact .nilOwn _ _ | exact .nilSl _ | exact .ownSl _ _ _ | exact SV.le.of_eq (by simp)) (Slots.cons rfl (by first | exact .refl _ | exact .nilOwn _ _ | exact .nilSl _ | exact .ownSl _ _ _ | exact SV.le.of_eq (by simp)) (Slots.cons rfl (by first | exact .refl _ | exact .nilOwn _ _ | exact .nilSl _ | exact .ownSl _ _ _ | exact SV.le.of_eq (by simp)) (Slots.cons rfl (by first | exact .refl _ | exact .nilOwn _ _ | exact .nilSl _ | exact .ownSl _ _ _ | exact SV.le.of_eq (by simp)) (Slots.cons rfl (by first | exact .refl _ | exact .nilOwn _ _ | exact .nilSl _ | exact .ownSl _ _ _ | exact SV.le.of_eq (by simp)) (Slots.cons rfl (by first | exact .refl _ | exact .nilOwn _ _ | exact .nilSl _ | exact .ownSl _ _ _ | exact SV.le.of_eq (by simp)) (Slots.cons rfl (by first | exact .refl _ | exact .nilOwn _ _ | exact .nilSl _ | exact .ownSl _ _ _ | exact SV.le.of_eq (by simp)) Slots.nil)))))))), (by first | exact List.Sublist.refl _ | exact List.nil_sublist _ | exact .cons _ (.refl _) | exact .cons _ (.cons _ (.refl _)) | exact .cons _ (.cons _ (.cons _ (.refl _))) | exact .cons _ (.cons _ (.cons _ (.cons _ (.refl _)))) | exact .cons_cons _ (List.nil_sublist _))⟩ ⟨0, rfl, rfl, Nat.zero_le _⟩ ?_
            rintro nn0 _ ⟨j, rfl, rfl, hj⟩
            refine awp_seq ?_
            refine awp_region ?_
            refine r_cmp rfl rfl rfl rfl ?_
            refine awl_nil ?_
            refine x_then ?_
            refine awp_seq ?_
            refine awp_cond rfl (fun hc10 => ?_) (fun hc10 => ?_)
            ·
              have hltj : j < fs.length := by have := of_decide_eq_true hc10; simpa using this
              obtain ⟨y, hy⟩ := get_lt hltj
              have hyn := setOf_some (namesOf (lookM l) nums) [] (Or.inl (hin y (List.mem_of_getElem? hy)))
              refine awp_skip ?_
              refine x_then ?_
              refine awp_seq ?_
              refine awp_block ?_
              refine awp_seq ?_
              refine awp_region ?_
              refine r_index rfl rfl rfl T.sl41 T.sz50 (by omega) (get_map hy) rfl ?_
              first | (refine r_loadA rfl T.agg50 T.sz50 rfl rfl ?_) | (refine r_loadAb 0 rfl rfl T.agg50 T.sz50 rfl rfl ?_)
              refine r_alloc T.zero50 rfl (fun b25 => ?_)
              first | (refine r_store 0 rfl rfl rfl T.sz50 rfl rfl rfl ?_) | (refine r_store 1 rfl rfl rfl T.sz50 rfl rfl rfl ?_)
              refine awl_nil ?_
              refine x_then ?_
              refine awp_seq ?_
              refine awp_region ?_
              refine r_move rfl rfl ?_
              first | (refine r_fieldcp rfl T.f50_0 T.sz9 rfl ?_) | (refine r_fieldb rfl T.f50_0 T.sz9 rfl ?_)
              first | (refine r_load1 rfl T.agg9 rfl ?_) | (refine r_load1b 0 rfl rfl rfl T.agg9 rfl ?_) | (refine r_load1b 1 rfl rfl rfl T.agg9 rfl ?_)
              first | (refine r_lookup 0 (keyEnc_string T.un9) (ev := boolA) false rfl rfl rfl T.map53 T.zav4 rfl ?_) | (refine r_lookup 1 (keyEnc_string T.un9) (ev := boolA) false rfl rfl rfl T.map53 T.zav4 rfl ?_)
              refine r_not rfl rfl ?_
              refine awl_nil ?_
              refine x_then ?_
              refine awp_cond rfl (fun hc11 => ?_) (fun hc11 => ?_)
              ·
                exfalso; rw [hyn] at hc11; cases hc11
              ·
                refine awp_skip ?_
                refine x_block ?_
                refine x_then ?_
                refine awp_region ?_
                refine r_ari _ rfl rfl rfl (wrap_id (by omega)) rfl ?_
                refine r_move rfl rfl ?_
                refine awl_nil ?_
                refine x_then ?_
                refine ⟨fs.length - (j + 1), ⟨158, [(8, .a (.v (.map (some b48)))), (9, .a (.fn 32 [.cp [momentsA l]])), (133, .a (numsA nums)), (134, .a (.v (.int .i64 ((nums.map fun x => [AV.v (.int .u64 x)]).length)))), (135, .a (.v (.int .i64 ((k : Int))))), (145, .a (files fs)), (146, .a (.v (.int .i64 ((fs.map File.cs).length)))), (147, .a (.v (.int .i64 (((j + 1) : Int)))))], [⟨b48, true, .map (encM Value.string boolA ((namesOf (lookM l) nums).foldl (fun m s => mset m s true) []))⟩]⟩, ⟨rfl, (Slots.cons rfl (by first | exact .refl _ | exact .nilOwn _ _ | exact .nilSl _ | exact .ownSl _ _ _ | exact SV.le.of_eq (by simp)) (Slots.cons rfl (by first | exact .refl _ | exact .nilOwn _ _ | exact .nilSl _ | exact .ownSl _ _ _ | exact SV.le.of_eq (by simp)) (Slots.cons rfl (by first | exact .refl _ | exact .nilOwn _ _ | exact .nilSl _ | exact .ownSl _ _ _ | exact SV.le.of_eq (by simp)) (Slots.cons rfl (by first | exact .refl _ | exact .nilOwn _ _ | exact .nilSl _ | exact .ownSl _ _ _ | exact SV.le.of_eq (by simp)) (Slots.cons rfl (by first | exact .refl _ | exact .nilOwn _ _ | exact .nilSl _ | exact .ownSl _ _ _ | exact SV.le.of_eq (by simp)) (Slots.cons rfl (by first | exact .refl _ | exact .nilOwn _ _ | exact .nilSl _ | exact .ownSl _ _ _ | exact SV.le.of_eq (by simp)) (Slots.cons rfl (by first | exact .refl _ | exact .nilOwn _ _ | exact .nilSl _ | exact .ownSl _ _ _ | exact SV.le.of_eq (by simp)) (Slots.cons rfl (by first | exact .refl _ | exact .nilOwn _ _ | exact .nilSl _ | exact .ownSl _ _ _ | exact SV.le.of_eq (by simp)) Slots.nil)))))))), (by first | exact List.Sublist.refl _ | exact List.nil_sublist _ | exact .cons _ (.refl _) | exact .cons _ (.cons _ (.refl _)) | exact .cons _ (.cons _ (.cons _ (.refl _))) | exact .cons _ (.cons _ (.cons _ (.cons _ (.refl _)))) | exact .cons_cons _ (List.nil_sublist _))⟩, (by omega), ⟨j + 1, rfl, rfl, (by have := (List.getElem?_eq_some_iff.1 hy).1; omega)⟩⟩
            ·
              refine awp_exit ?_
              refine x_thenE ?_
              refine x_thenE ?_
              refine x_blockE ?_
              refine x_block ?_
              refine x_then ?_
              refine awp_region ?_
              refine r_ari _ rfl rfl rfl (wrap_id (by omega)) rfl ?_
              refine r_move rfl rfl ?_
              refine awl_nil ?_
              refine x_then ?_
              refine ⟨nums.length - (k + 1), ⟨158, [(8, .a (.v (.map (some b48)))), (9, .a (.fn 32 [.cp [momentsA l]])), (133, .a (numsA nums)), (134, .a (.v (.int .i64 ((nums.map fun x => [AV.v (.int .u64 x)]).length)))), (135, .a (.v (.int .i64 (((k + 1) : Int)))))], [⟨b48, true, .map (encM Value.string boolA ((namesOf (lookM l) nums).foldl (fun m s => mset m s true) []))⟩]⟩, ⟨rfl, (Slots.cons rfl (by first | exact .refl _ | exact .nilOwn _ _ | exact .nilSl _ | exact .ownSl _ _ _ | exact SV.le.of_eq (by simp)) (Slots.cons rfl (by first | exact .refl _ | exact .nilOwn _ _ | exact .nilSl _ | exact .ownSl _ _ _ | exact SV.le.of_eq (by simp)) (Slots.cons rfl (by first | exact .refl _ | exact .nilOwn _ _ | exact .nilSl _ | exact .ownSl _ _ _ | exact SV.le.of_eq (by simp)) (Slots.cons rfl (by first | exact .refl _ | exact .nilOwn _ _ | exact .nilSl _ | exact .ownSl _ _ _ | exact SV.le.of_eq (by simp)) (Slots.cons rfl (by first | exact .refl _ | exact .nilOwn _ _ | exact .nilSl _ | exact .ownSl _ _ _ | exact SV.le.of_eq (by simp)) Slots.nil))))), (by first | exact List.Sublist.refl _ | exact List.nil_sublist _ | exact .cons _ (.refl _) | exact .cons _ (.cons _ (.refl _)) | exact .cons _ (.cons _ (.cons _ (.refl _))) | exact .cons _ (.cons _ (.cons _ (.cons _ (.refl _)))) | exact .cons_cons _ (List.nil_sublist _))⟩, (by omega), ⟨k + 1, rfl, rfl, (by have := (List.getElem?_eq_some_iff.1 hx).1; omega)⟩⟩
          ·
            refine awp_exit ?_
            refine x_thenE ?_
            refine x_thenE ?_
            refine x_blockE ?_
            refine x_then ?_
            refine awp_seq ?_
            refine awp_region ?_
            refine r_assign rfl rfl ?_
            refine awl_nil ?_
            refine x_then ?_
            refine awp_ret ?_
            exact ⟨(.inl rfl), _, [], (.one (by first | exact .mk rfl rfl | exact .nil rfl)), ⟨rfl, rfl⟩, (List.nil_sublist _), (by simp)⟩

end Go.Proofs.Ytpoacfbobalpkaa.A

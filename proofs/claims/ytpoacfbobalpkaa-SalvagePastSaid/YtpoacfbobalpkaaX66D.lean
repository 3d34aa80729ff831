/- Layer 66: walks of Plan. -/
import Derived.Test.YtpoacfbobalpkaaProg
import Derived.KernelRfl
import Derived.Test.YtpoacfbobalpkaaX66C
namespace Go.Proofs.Ytpoacfbobalpkaa.A
open Go Go.RowKit
set_option linter.unusedVariables false
set_option linter.unusedSimpArgs false
set_option maxRecDepth 100000

theorem T.un28 : Try.prog.underlying 28 = some (.func #[30] #[41, 4] false) := by kernel_rfl
theorem T.agg50 : aggT Try.prog 50 = some true := by kernel_rfl
theorem T.f50_0 : fieldT Try.prog 50 0 = some (0, 9) := by kernel_rfl
theorem T.zav4 : ZeroAV Try.prog 4 (.v (.bool false)) := ⟨.v (.bool false), by kernel_rfl, .one (.refl _)⟩
theorem T.un37 : Try.prog.underlying 37 = some (.func #[9, 31] #[4] false) := by kernel_rfl
theorem T.f50_1 : fieldT Try.prog 50 1 = some (1, 31) := by kernel_rfl

theorem plan_ok (nums : List Int) (look : Int → Option (List File)) (wh : ByteArray → List UInt8 → Bool) (hnl : nums.length ≤ 1000000) (hfs : ∀ m ∈ nums, ∀ fs, look m = some fs → fs.length ≤ 1000000 ∧ ∀ f ∈ fs, f.data.length ≤ 1000000)
    {fa : Nat} {ca : List AV} (hea : entersT Try.prog fa) (ha : ∀ m ∈ nums, AC Try.prog fa (.v (.int .u64 m) :: ca) [] (fun r n => n = [] ∧ r = atR (look m))) {fw : Nat} {cw : List AV} (hew : entersT Try.prog fw) (hw : ∀ s d, d.length ≤ 1000000 → AC Try.prog fw (strA s :: bts d :: cw) [] (fun r n => n = [] ∧ r = boolA (wh s d)))
    (hbl : (bestOf look wh nums).length ≤ 1000000) (hbn : ∀ s ∈ (bestOf look wh nums).map (·.1), s.size ≤ maxLen) :
    AC Try.prog 11 [numsA nums, .fn fa ca, .fn fw cw] [] (fun r n => n = [] ∧ r = choicesA (planOf look wh nums)) := by
  refine ac_of_awp (rs := [6]) (nt := 102) Try.func11 rfl rfl rfl rfl (fun w0 C0 => ?_)
  refine awp_seq ?_
  refine awp_region ?_
  refine r_assign rfl rfl ?_
  refine awl_nil ?_
  refine x_then ?_
  refine awp_seq ?_
  refine awp_region ?_
  refine r_makeMap (ek := Value.string) (ev := Choice.av) [] rfl rfl (fun b20 => ?_)
  refine r_assign rfl rfl ?_
  refine awl_nil ?_
  refine x_then ?_
  refine awp_seq ?_
  refine awp_seq ?_
  refine awp_region ?_
  refine r_move rfl rfl ?_
  first | (refine r_lenS rfl rfl T.sl23 rfl ?_) | (refine r_lenNil rfl T.sl23 rfl ?_)
  refine r_move rfl rfl ?_
  refine awl_nil ?_
  refine x_then ?_
  refine awp_block ?_
  refine awp_loop (fun nn0 S => ∃ k : Nat, S = ⟨102, [(1, .a (.fn fa ca)), (2, .a (.fn fw cw)), (7, .a (.v (.map (some b20)))), (21, .a (numsA nums)), (22, .a (.v (.int .i64 ((nums.map fun x => [AV.v (.int .u64 x)]).length)))), (23, .a (.v (.int .i64 ((k : Int)))))], [⟨b20, true, .map (encM Value.string Choice.av (bestOf look wh (nums.take k)))⟩]⟩ ∧ nn0 = nums.length - k ∧ (k ≤ nums.length)) (nums.length - (0)) ⟨102, [(1, .a (.fn fa ca)), (2, .a (.fn fw cw)), (7, .a (.v (.map (some b20)))), (21, .a (numsA nums)), (22, .a (.v (.int .i64 ((nums.map fun x => [AV.v (.int .u64 x)]).length)))), (23, .a (.v (.int .i64 (((0) : Int)))))], [⟨b20, true, .map (encM Value.string Choice.av (bestOf look wh (nums.take (0))))⟩]⟩ ⟨rfl, (Slots.cons rfl (by first | exact .refl _ | exact .nilOwn _ _ | exact .nilSl _ | exact .ownSl _ _ _ | exact SV.le.of_eq (by simp)) (Slots.cons rfl (by first | exact .refl _ | exact .nilOwn _ _ | exact .nilSl _ | exact .ownSl _ _ _ | exact SV.le.of_eq (by simp)) (Slots.cons rfl (by first | exact .refl _ | exact .nilOwn _ _ | exact .nilSl _ | exact .ownSl _ _ _ | exact SV.le.of_eq (by simp)) (Slots.cons rfl (by first | exact .refl _ | exact .nilOwn _ _ | exact .nilSl _ | exact .ownSl _ _ _ | exact SV.le.of_eq (by simp)) (Slots.cons rfl (by first | exact .refl _ | exact .nilOwn _ _ | exact .nilSl _ | exact .ownSl _ _ _ | exact SV.le.of_eq (by simp)) (Slots.cons rfl (by first | exact .refl _ | exact .nilOwn _ _ | exact .nilSl _ | exact .ownSl _ _ _ | exact SV.le.of_eq (by simp)) Slots.nil)))))), (by first | exact List.Sublist.refl _ | exact List.nil_sublist _ | exact .cons _ (.refl _) | exact .cons _ (.cons _ (.refl _)) | exact .cons _ (.cons _ (.cons _ (.refl _))) | exact .cons _ (.cons _ (.cons _ (.cons _ (.refl _)))) | exact .cons_cons _ (List.nil_sublist _))⟩ ⟨0, rfl, rfl, Nat.zero_le _⟩ ?_
  rintro nn0 _ ⟨k, rfl, rfl, hk⟩
  refine awp_seq ?_
  refine awp_region ?_
  refine r_cmp rfl rfl rfl rfl ?_
  refine awl_nil ?_
  refine x_then ?_
  refine awp_seq ?_
  refine awp_cond rfl (fun hc0 => ?_) (fun hc0 => ?_)
  ·
    have hlt : k < nums.length := by have := of_decide_eq_true hc0; simpa using this
    obtain ⟨x, hx⟩ := get_lt hlt
    have e : bestOf look wh (nums.take (k + 1)) = stepM look wh (bestOf look wh (nums.take k)) x := fold_take hx
    rw [stepM] at e
    refine awp_skip ?_
    refine x_then ?_
    refine awp_seq ?_
    refine awp_block ?_
    refine awp_seq ?_
    refine awp_region ?_
    refine r_index rfl rfl rfl T.sl23 T.sz30 (by omega) (get_map hx) rfl ?_
    first | (refine r_load1 rfl T.agg30 rfl ?_) | (refine r_load1b 0 rfl rfl rfl T.agg30 rfl ?_)
    refine r_assign rfl rfl ?_
    refine awl_nil ?_
    refine x_then ?_
    refine awp_seq ?_
    refine awp_seq ?_
    refine awp_region ?_
    refine r_move rfl rfl ?_
    first | (refine r_fn_eq rfl T.un28 rfl ?_) | (refine r_nofn_eq rfl T.un28 rfl ?_)
    refine awl_nil ?_
    refine x_then ?_
    refine awp_cond rfl (fun hc1 => ?_) (fun hc1 => ?_)
    ·
      exfalso; cases hc1
    ·
      refine awp_skip ?_
      refine x_then ?_
      refine awp_seq ?_
      refine awp_region ?_
      refine r_move rfl rfl ?_
      refine r_move rfl rfl ?_
      refine r_call0 rfl rfl (.cons (.ev rfl rfl) .nil) (ha x (List.mem_of_getElem? hx)) rfl hea rfl (fun r hr => ?_)
      obtain rfl := hr
      rcases hlk : look x with _ | fs
      ·
        rw [hlk] at e
        refine r_move rfl rfl ?_
        refine r_extract rfl rfl rfl ?_
        refine r_extract rfl rfl rfl ?_
        refine r_assign rfl rfl ?_
        refine r_assign rfl rfl ?_
        refine awl_nil ?_
        refine x_then ?_
        refine awp_seq ?_
        refine awp_seq ?_
        refine awp_region ?_
        refine r_move rfl rfl ?_
        refine r_not rfl rfl ?_
        refine awl_nil ?_
        refine x_then ?_
        refine awp_condT rfl ?_
        refine awp_exit ?_
        refine x_thenE ?_
        refine x_blockE ?_
        refine x_then ?_
        refine awp_region ?_
        refine r_ari _ rfl rfl rfl (wrap_id (by omega)) rfl ?_
        refine r_move rfl rfl ?_
        refine awl_nil ?_
        refine x_then ?_
        refine ⟨nums.length - (k + 1), ⟨102, [(1, .a (.fn fa ca)), (2, .a (.fn fw cw)), (7, .a (.v (.map (some b20)))), (21, .a (numsA nums)), (22, .a (.v (.int .i64 ((nums.map fun x => [AV.v (.int .u64 x)]).length)))), (23, .a (.v (.int .i64 (((k + 1) : Int)))))], [⟨b20, true, .map (encM Value.string Choice.av (bestOf look wh (nums.take (k + 1))))⟩]⟩, ⟨rfl, (Slots.cons rfl (by first | exact .refl _ | exact .nilOwn _ _ | exact .nilSl _ | exact .ownSl _ _ _ | exact SV.le.of_eq (by simp)) (Slots.cons rfl (by first | exact .refl _ | exact .nilOwn _ _ | exact .nilSl _ | exact .ownSl _ _ _ | exact SV.le.of_eq (by simp)) (Slots.cons rfl (by first | exact .refl _ | exact .nilOwn _ _ | exact .nilSl _ | exact .ownSl _ _ _ | exact SV.le.of_eq (by simp)) (Slots.cons rfl (by first | exact .refl _ | exact .nilOwn _ _ | exact .nilSl _ | exact .ownSl _ _ _ | exact SV.le.of_eq (by simp)) (Slots.cons rfl (by first | exact .refl _ | exact .nilOwn _ _ | exact .nilSl _ | exact .ownSl _ _ _ | exact SV.le.of_eq (by simp)) (Slots.cons rfl (by first | exact .refl _ | exact .nilOwn _ _ | exact .nilSl _ | exact .ownSl _ _ _ | exact SV.le.of_eq (by simp)) Slots.nil)))))), (by rw [e]; first | exact List.Sublist.refl _ | exact List.nil_sublist _ | exact .cons _ (.refl _) | exact .cons _ (.cons _ (.refl _)) | exact .cons _ (.cons _ (.cons _ (.refl _))) | exact .cons _ (.cons _ (.cons _ (.cons _ (.refl _)))) | exact .cons_cons _ (List.nil_sublist _))⟩, (by omega), ⟨k + 1, rfl, rfl, (by have := (List.getElem?_eq_some_iff.1 hx).1; omega)⟩⟩
      ·
        rw [hlk] at e
        obtain ⟨hfl, hfd⟩ := hfs x (List.mem_of_getElem? hx) fs hlk
        refine r_move rfl rfl ?_
        refine r_extract rfl rfl rfl ?_
        refine r_extract rfl rfl rfl ?_
        refine r_assign rfl rfl ?_
        refine r_assign rfl rfl ?_
        refine awl_nil ?_
        refine x_then ?_
        refine awp_seq ?_
        refine awp_seq ?_
        refine awp_region ?_
        refine r_move rfl rfl ?_
        refine r_not rfl rfl ?_
        refine awl_nil ?_
        refine x_then ?_
        refine awp_condF rfl ?_
        refine awp_skip ?_
        refine x_then ?_
        refine awp_seq ?_
        refine awp_region ?_
        refine r_makeMap (ek := Value.string) (ev := boolA) [] rfl rfl (fun b37 => ?_)
        refine r_assign rfl rfl ?_
        refine awl_nil ?_
        refine x_then ?_
        refine awp_seq ?_
        refine awp_region ?_
        refine r_move rfl rfl ?_
        first | (refine r_lenS rfl rfl T.sl41 rfl ?_) | (refine r_lenNil rfl T.sl41 rfl ?_)
        refine r_move rfl rfl ?_
        refine awl_nil ?_
        refine x_then ?_
        refine awp_block ?_
        refine awp_loop (fun nn0 S => ∃ j : Nat, S = ⟨102, [(1, .a (.fn fa ca)), (2, .a (.fn fw cw)), (7, .a (.v (.map (some b20)))), (21, .a (numsA nums)), (22, .a (.v (.int .i64 ((nums.map fun x => [AV.v (.int .u64 x)]).length)))), (23, .a (.v (.int .i64 ((k : Int))))), (9, .a (.v (.int .u64 x))), (12, .a (.v (.map (some b37)))), (38, .a (files fs)), (39, .a (.v (.int .i64 ((fs.map File.cs).length)))), (40, .a (.v (.int .i64 ((j : Int)))))], [⟨b37, true, .map (encM Value.string boolA ((fs.take j).foldl (stepF wh x) ([], (bestOf look wh (nums.take k)))).1)⟩, ⟨b20, true, .map (encM Value.string Choice.av ((fs.take j).foldl (stepF wh x) ([], (bestOf look wh (nums.take k)))).2)⟩]⟩ ∧ nn0 = fs.length - j ∧ (j ≤ fs.length)) (fs.length - (0)) ⟨102, [(1, .a (.fn fa ca)), (2, .a (.fn fw cw)), (7, .a (.v (.map (some b20)))), (21, .a (numsA nums)), (22, .a (.v (.int .i64 ((nums.map fun x => [AV.v (.int .u64 x)]).length)))), (23, .a (.v (.int .i64 ((k : Int))))), (9, .a (.v (.int .u64 x))), (12, .a (.v (.map (some b37)))), (38, .a (files fs)), (39, .a (.v (.int .i64 ((fs.map File.cs).length)))), (40, .a (.v (.int .i64 (((0) : Int)))))], [⟨b37, true, .map (encM Value.string boolA ((fs.take (0)).foldl (stepF wh x) ([], (bestOf look wh (nums.take k)))).1)⟩, ⟨b20, true, .map (encM Value.string Choice.av ((fs.take (0)).foldl (stepF wh x) ([], (bestOf look wh (nums.take k)))).2)⟩]⟩ ⟨rfl, (Slots.cons rfl (by first | exact .refl _ | exact .nilOwn _ _ | exact .nilSl _ | exact .ownSl _ _ _ | exact SV.le.of_eq (by simp)) (Slots.cons rfl (by first | exact .refl _ | exact .nilOwn _ _ | exact .nilSl _ | exact .ownSl _ _ _ | exact SV.le.of_eq (by simp)) (Slots.cons rfl (by first | exact .refl _ | exact .nilOwn _ _ | exact .nilSl _ | exact .ownSl _ _ _ | exact SV.le.of_eq (by simp)) (Slots.cons rfl (by first | exact .refl _ | exact .nilOwn _ _ | exact .nilSl _ | exact .ownSl _ _ _ | exact SV.le.of_eq (by simp)) (Slots.cons rfl (by first | exact .refl _ | exact .nilOwn _ _ | exact .nilSl _ | exact .ownSl _ _ _ | exact SV.le.of_eq (by simp)) (Slots.cons rfl (by first | exact .refl _ | exact .nilOwn _ _ | exact .nilSl _ | exact .ownSl _ _ _ | exact SV.le.of_eq (by simp)) (Slots.cons rfl (by first | exact .refl _ | exact .nilOwn _ _ | exact .nilSl _ | exact .ownSl _ _ _ | exact SV.le.of_eq (by simp)) (Slots.cons rfl (by first | exact .refl _ | exact .nilOwn _ _ | exact .nilSl _ | exact .ownSl _ _ _ | exact SV.le.of_eq (by simp)) (Slots.cons rfl (by first | exact .refl _ | exact .nilOwn _ _ | exact .nilSl _ | exact .ownSl _ _ _ | exact SV.le.of_eq (by simp)) (Slots.cons rfl (by first | exact .refl _ | exact .nilOwn _ _ | exact .nilSl _ | exact .ownSl _ _ _ | exact SV.le.of_eq (by simp)) (Slots.cons rfl (by first | exact .refl _ | exact .nilOwn _ _ | exact .nilSl _ | exact .ownSl _ _ _ | exact SV.le.of_eq (by simp)) Slots.nil))))))))))), (by first | exact List.Sublist.refl _ | exact List.nil_sublist _ | exact .cons _ (.refl _) | exact .cons _ (.cons _ (.refl _)) | exact .cons _ (.cons _ (.cons _ (.refl _))) | exact .cons _ (.cons _ (.cons _ (.cons _ (.refl _)))) | exact .cons_cons _ (List.nil_sublist _))⟩ ⟨0, rfl, rfl, Nat.zero_le _⟩ ?_
        rintro nn0 _ ⟨j, rfl, rfl, hj⟩
        refine awp_seq ?_
        refine awp_region ?_
        refine r_cmp rfl rfl rfl rfl ?_
        refine awl_nil ?_
        refine x_then ?_
        refine awp_seq ?_
        refine awp_cond rfl (fun hc3 => ?_) (fun hc3 => ?_)
        ·
          have hltj : j < fs.length := by have := of_decide_eq_true hc3; simpa using this
          obtain ⟨y, hy⟩ := get_lt hltj
          have hyd := hfd y (List.mem_of_getElem? hy)
          have e2 : (fs.take (j + 1)).foldl (stepF wh x) ([], (bestOf look wh (nums.take k))) = stepF wh x ((fs.take j).foldl (stepF wh x) ([], (bestOf look wh (nums.take k)))) y := fold_take hy
          rw [stepF] at e2
          refine awp_skip ?_
          refine x_then ?_
          refine awp_seq ?_
          refine awp_block ?_
          refine awp_seq ?_
          refine awp_region ?_
          refine r_index rfl rfl rfl T.sl41 T.sz50 (by omega) (get_map hy) rfl ?_
          first | (refine r_loadA rfl T.agg50 T.sz50 rfl rfl ?_) | (refine r_loadAb 0 rfl rfl T.agg50 T.sz50 rfl rfl ?_) | (refine r_loadAb 1 rfl rfl T.agg50 T.sz50 rfl rfl ?_)
          refine r_alloc T.zero50 rfl (fun b14 => ?_)
          first | (refine r_store 0 rfl rfl rfl T.sz50 rfl rfl rfl ?_) | (refine r_store 1 rfl rfl rfl T.sz50 rfl rfl rfl ?_) | (refine r_store 2 rfl rfl rfl T.sz50 rfl rfl rfl ?_)
          refine awl_nil ?_
          refine x_then ?_
          refine awp_seq ?_
          refine awp_seq ?_
          refine awp_region ?_
          refine r_move rfl rfl ?_
          first | (refine r_fieldcp rfl T.f50_0 T.sz9 rfl ?_) | (refine r_fieldb rfl T.f50_0 T.sz9 rfl ?_)
          first | (refine r_load1 rfl T.agg9 rfl ?_) | (refine r_load1b 0 rfl rfl rfl T.agg9 rfl ?_) | (refine r_load1b 1 rfl rfl rfl T.agg9 rfl ?_) | (refine r_load1b 2 rfl rfl rfl T.agg9 rfl ?_)
          first | (refine r_lookup 0 (keyEnc_string T.un9) (ev := boolA) false rfl rfl rfl T.map53 T.zav4 rfl ?_) | (refine r_lookup 1 (keyEnc_string T.un9) (ev := boolA) false rfl rfl rfl T.map53 T.zav4 rfl ?_) | (refine r_lookup 2 (keyEnc_string T.un9) (ev := boolA) false rfl rfl rfl T.map53 T.zav4 rfl ?_)
          refine awl_nil ?_
          refine x_then ?_
          refine awp_cond rfl (fun hc4 => ?_) (fun hc4 => ?_)
          ·
            rw [hc4] at e2
            refine awp_exit ?_
            refine x_thenE ?_
            refine x_blockE ?_
            refine x_then ?_
            refine awp_region ?_
            refine r_ari _ rfl rfl rfl (wrap_id (by omega)) rfl ?_
            refine r_move rfl rfl ?_
            refine awl_nil ?_
            refine x_then ?_
            refine ⟨fs.length - (j + 1), ⟨102, [(1, .a (.fn fa ca)), (2, .a (.fn fw cw)), (7, .a (.v (.map (some b20)))), (21, .a (numsA nums)), (22, .a (.v (.int .i64 ((nums.map fun x => [AV.v (.int .u64 x)]).length)))), (23, .a (.v (.int .i64 ((k : Int))))), (9, .a (.v (.int .u64 x))), (12, .a (.v (.map (some b37)))), (38, .a (files fs)), (39, .a (.v (.int .i64 ((fs.map File.cs).length)))), (40, .a (.v (.int .i64 (((j + 1) : Int)))))], [⟨b37, true, .map (encM Value.string boolA ((fs.take (j + 1)).foldl (stepF wh x) ([], (bestOf look wh (nums.take k)))).1)⟩, ⟨b20, true, .map (encM Value.string Choice.av ((fs.take (j + 1)).foldl (stepF wh x) ([], (bestOf look wh (nums.take k)))).2)⟩]⟩, ⟨rfl, (Slots.cons rfl (by first | exact .refl _ | exact .nilOwn _ _ | exact .nilSl _ | exact .ownSl _ _ _ | exact SV.le.of_eq (by simp)) (Slots.cons rfl (by first | exact .refl _ | exact .nilOwn _ _ | exact .nilSl _ | exact .ownSl _ _ _ | exact SV.le.of_eq (by simp)) (Slots.cons rfl (by first | exact .refl _ | exact .nilOwn _ _ | exact .nilSl _ | exact .ownSl _ _ _ | exact SV.le.of_eq (by simp)) (Slots.cons rfl (by first | exact .refl _ | exact .nilOwn _ _ | exact .nilSl _ | exact .ownSl _ _ _ | exact SV.le.of_eq (by simp)) (Slots.cons rfl (by first | exact .refl _ | exact .nilOwn _ _ | exact .nilSl _ | exact .ownSl _ _ _ | exact SV.le.of_eq (by simp)) (Slots.cons rfl (by first | exact .refl _ | exact .nilOwn _ _ | exact .nilSl _ | exact .ownSl _ _ _ | exact SV.le.of_eq (by simp)) (Slots.cons rfl (by first | exact .refl _ | exact .nilOwn _ _ | exact .nilSl _ | exact .ownSl _ _ _ | exact SV.le.of_eq (by simp)) (Slots.cons rfl (by first | exact .refl _ | exact .nilOwn _ _ | exact .nilSl _ | exact .ownSl _ _ _ | exact SV.le.of_eq (by simp)) (Slots.cons rfl (by first | exact .refl _ | exact .nilOwn _ _ | exact .nilSl _ | exact .ownSl _ _ _ | exact SV.le.of_eq (by simp)) (Slots.cons rfl (by first | exact .refl _ | exact .nilOwn _ _ | exact .nilSl _ | exact .ownSl _ _ _ | exact SV.le.of_eq (by simp)) (Slots.cons rfl (by first | exact .refl _ | exact .nilOwn _ _ | exact .nilSl _ | exact .ownSl _ _ _ | exact SV.le.of_eq (by simp)) Slots.nil))))))))))), (by rw [e2]; first | exact List.Sublist.refl _ | exact List.nil_sublist _ | exact .cons _ (.refl _) | exact .cons _ (.cons _ (.refl _)) | exact .cons _ (.cons _ (.cons _ (.refl _))) | exact .cons _ (.cons _ (.cons _ (.cons _ (.refl _)))) | exact .cons_cons _ (List.nil_sublist _))⟩, (by omega), ⟨j + 1, rfl, rfl, (by have := (List.getElem?_eq_some_iff.1 hy).1; omega)⟩⟩
          ·
            rw [hc4] at e2
            refine awp_skip ?_
            refine x_then ?_
            refine awp_seq ?_
            refine awp_region ?_
            refine r_move rfl rfl ?_
            first | (refine r_fieldcp rfl T.f50_0 T.sz9 rfl ?_) | (refine r_fieldb rfl T.f50_0 T.sz9 rfl ?_)
            first | (refine r_load1 rfl T.agg9 rfl ?_) | (refine r_load1b 0 rfl rfl rfl T.agg9 rfl ?_) | (refine r_load1b 1 rfl rfl rfl T.agg9 rfl ?_) | (refine r_load1b 2 rfl rfl rfl T.agg9 rfl ?_)
            first | (refine r_mapUpdate 0 (keyEnc_string T.un9) (ev := boolA) true rfl rfl rfl rfl rfl T.map53 ?_) | (refine r_mapUpdate 1 (keyEnc_string T.un9) (ev := boolA) true rfl rfl rfl rfl rfl T.map53 ?_) | (refine r_mapUpdate 2 (keyEnc_string T.un9) (ev := boolA) true rfl rfl rfl rfl rfl T.map53 ?_)
            refine awl_nil ?_
            refine x_then ?_
            refine awp_seq ?_
            refine awp_region ?_
            refine r_move rfl rfl ?_
            first | (refine r_fieldcp rfl T.f50_0 T.sz9 rfl ?_) | (refine r_fieldb rfl T.f50_0 T.sz9 rfl ?_)
            first | (refine r_load1 rfl T.agg9 rfl ?_) | (refine r_load1b 0 rfl rfl rfl T.agg9 rfl ?_) | (refine r_load1b 1 rfl rfl rfl T.agg9 rfl ?_) | (refine r_load1b 2 rfl rfl rfl T.agg9 rfl ?_)
            first | (refine r_lookupOk 0 (keyEnc_string T.un9) (ev := Choice.av) Choice.zero rfl rfl rfl T.map71 T.zav33 rfl ?_) | (refine r_lookupOk 1 (keyEnc_string T.un9) (ev := Choice.av) Choice.zero rfl rfl rfl T.map71 T.zav33 rfl ?_) | (refine r_lookupOk 2 (keyEnc_string T.un9) (ev := Choice.av) Choice.zero rfl rfl rfl T.map71 T.zav33 rfl ?_)
            refine r_move rfl rfl ?_
            refine r_extract rfl rfl rfl ?_
            refine r_extract rfl rfl rfl ?_
            refine r_alloc T.zero33 rfl (fun b15 => ?_)
            first | (refine r_store 0 rfl rfl rfl T.sz33 rfl rfl rfl ?_) | (refine r_store 1 rfl rfl rfl T.sz33 rfl rfl rfl ?_) | (refine r_store 2 rfl rfl rfl T.sz33 rfl rfl rfl ?_) | (refine r_store 3 rfl rfl rfl T.sz33 rfl rfl rfl ?_)
            refine r_assign rfl rfl ?_
            refine awl_nil ?_
            refine x_then ?_
            refine awp_cut (fun S => S = ⟨102, [(1, .a (.fn fa ca)), (2, .a (.fn fw cw)), (7, .a (.v (.map (some b20)))), (21, .a (numsA nums)), (22, .a (.v (.int .i64 ((nums.map fun x => [AV.v (.int .u64 x)]).length)))), (23, .a (.v (.int .i64 ((k : Int))))), (9, .a (.v (.int .u64 x))), (12, .a (.v (.map (some b37)))), (38, .a (files fs)), (39, .a (.v (.int .i64 ((fs.map File.cs).length)))), (40, .a (.v (.int .i64 ((j : Int))))), (14, .a (.v (.pointer (some ⟨b14, 0, none⟩)))), (15, .a (.v (.pointer (some ⟨b15, 0, none⟩))))], [⟨b15, true, .box (Choice.cs ((mget ((fs.take j).foldl (stepF wh x) ([], (bestOf look wh (nums.take k)))).2 y.name).getD ⟨y.name, 0, false, []⟩))⟩, ⟨b14, true, .box (File.cs y)⟩, ⟨b37, true, .map (encM Value.string boolA (mset ((fs.take j).foldl (stepF wh x) ([], (bestOf look wh (nums.take k)))).1 y.name true))⟩, ⟨b20, true, .map (encM Value.string Choice.av ((fs.take j).foldl (stepF wh x) ([], (bestOf look wh (nums.take k)))).2)⟩]⟩) ?_ ?_
            ·
              refine awp_seq ?_
              refine awp_region ?_
              refine r_move rfl rfl ?_
              refine r_not rfl rfl ?_
              refine awl_nil ?_
              refine x_then ?_
              refine awp_cond rfl (fun hc5 => ?_) (fun hc5 => ?_)
              ·
                have hn : mget ((fs.take j).foldl (stepF wh x) ([], (bestOf look wh (nums.take k)))).2 y.name = none := by cases h : mget ((fs.take j).foldl (stepF wh x) ([], (bestOf look wh (nums.take k)))).2 y.name with | none => rfl | some c => rw [h] at hc5; cases hc5
                have hcc : ((mget ((fs.take j).foldl (stepF wh x) ([], (bestOf look wh (nums.take k)))).2 y.name).getD ⟨y.name, 0, false, []⟩) = ⟨y.name, 0, false, []⟩ := by rw [hn]; rfl
                refine awp_region ?_
                first | (refine r_fieldcp rfl T.f50_0 T.sz9 rfl ?_) | (refine r_fieldb rfl T.f50_0 T.sz9 rfl ?_)
                first | (refine r_load1 rfl T.agg9 rfl ?_) | (refine r_load1b 0 rfl rfl rfl T.agg9 rfl ?_) | (refine r_load1b 1 rfl rfl rfl T.agg9 rfl ?_) | (refine r_load1b 2 rfl rfl rfl T.agg9 rfl ?_) | (refine r_load1b 3 rfl rfl rfl T.agg9 rfl ?_)
                refine r_build (parts := [(0, .tmp 61)]) rfl T.pl33 T.zero33 rfl rfl rfl ?_
                first | (refine r_store 0 rfl rfl rfl T.sz33 rfl rfl rfl ?_) | (refine r_store 1 rfl rfl rfl T.sz33 rfl rfl rfl ?_) | (refine r_store 2 rfl rfl rfl T.sz33 rfl rfl rfl ?_) | (refine r_store 3 rfl rfl rfl T.sz33 rfl rfl rfl ?_)
                refine awl_nil ?_
                refine x_then ?_
                refine ⟨⟨102, [(1, .a (.fn fa ca)), (2, .a (.fn fw cw)), (7, .a (.v (.map (some b20)))), (21, .a (numsA nums)), (22, .a (.v (.int .i64 ((nums.map fun x => [AV.v (.int .u64 x)]).length)))), (23, .a (.v (.int .i64 ((k : Int))))), (9, .a (.v (.int .u64 x))), (12, .a (.v (.map (some b37)))), (38, .a (files fs)), (39, .a (.v (.int .i64 ((fs.map File.cs).length)))), (40, .a (.v (.int .i64 ((j : Int))))), (14, .a (.v (.pointer (some ⟨b14, 0, none⟩)))), (15, .a (.v (.pointer (some ⟨b15, 0, none⟩))))], [⟨b15, true, .box (Choice.cs ((mget ((fs.take j).foldl (stepF wh x) ([], (bestOf look wh (nums.take k)))).2 y.name).getD ⟨y.name, 0, false, []⟩))⟩, ⟨b14, true, .box (File.cs y)⟩, ⟨b37, true, .map (encM Value.string boolA (mset ((fs.take j).foldl (stepF wh x) ([], (bestOf look wh (nums.take k)))).1 y.name true))⟩, ⟨b20, true, .map (encM Value.string Choice.av ((fs.take j).foldl (stepF wh x) ([], (bestOf look wh (nums.take k)))).2)⟩]⟩, ⟨rfl, (Slots.cons rfl (by first | exact .refl _ | exact .nilOwn _ _ | exact .nilSl _ | exact .ownSl _ _ _ | exact SV.le.of_eq (by simp)) (Slots.cons rfl (by first | exact .refl _ | exact .nilOwn _ _ | exact .nilSl _ | exact .ownSl _ _ _ | exact SV.le.of_eq (by simp)) (Slots.cons rfl (by first | exact .refl _ | exact .nilOwn _ _ | exact .nilSl _ | exact .ownSl _ _ _ | exact SV.le.of_eq (by simp)) (Slots.cons rfl (by first | exact .refl _ | exact .nilOwn _ _ | exact .nilSl _ | exact .ownSl _ _ _ | exact SV.le.of_eq (by simp)) (Slots.cons rfl (by first | exact .refl _ | exact .nilOwn _ _ | exact .nilSl _ | exact .ownSl _ _ _ | exact SV.le.of_eq (by simp)) (Slots.cons rfl (by first | exact .refl _ | exact .nilOwn _ _ | exact .nilSl _ | exact .ownSl _ _ _ | exact SV.le.of_eq (by simp)) (Slots.cons rfl (by first | exact .refl _ | exact .nilOwn _ _ | exact .nilSl _ | exact .ownSl _ _ _ | exact SV.le.of_eq (by simp)) (Slots.cons rfl (by first | exact .refl _ | exact .nilOwn _ _ | exact .nilSl _ | exact .ownSl _ _ _ | exact SV.le.of_eq (by simp)) (Slots.cons rfl (by first | exact .refl _ | exact .nilOwn _ _ | exact .nilSl _ | exact .ownSl _ _ _ | exact SV.le.of_eq (by simp)) (Slots.cons rfl (by first | exact .refl _ | exact .nilOwn _ _ | exact .nilSl _ | exact .ownSl _ _ _ | exact SV.le.of_eq (by simp)) (Slots.cons rfl (by first | exact .refl _ | exact .nilOwn _ _ | exact .nilSl _ | exact .ownSl _ _ _ | exact SV.le.of_eq (by simp)) (Slots.cons rfl (by first | exact .refl _ | exact .nilOwn _ _ | exact .nilSl _ | exact .ownSl _ _ _ | exact SV.le.of_eq (by simp)) (Slots.cons rfl (by first | exact .refl _ | exact .nilOwn _ _ | exact .nilSl _ | exact .ownSl _ _ _ | exact SV.le.of_eq (by simp)) Slots.nil))))))))))))), (by rw [hcc]; first | exact List.Sublist.refl _ | exact List.nil_sublist _ | exact .cons _ (.refl _) | exact .cons _ (.cons _ (.refl _)) | exact .cons _ (.cons _ (.cons _ (.refl _))) | exact .cons _ (.cons _ (.cons _ (.cons _ (.refl _)))) | exact .cons_cons _ (List.nil_sublist _))⟩, rfl⟩
              ·
                have hcc : ((mget ((fs.take j).foldl (stepF wh x) ([], (bestOf look wh (nums.take k)))).2 y.name).getD ⟨y.name, 0, false, []⟩) = (mget ((fs.take j).foldl (stepF wh x) ([], (bestOf look wh (nums.take k)))).2 y.name).getD .zero := by cases h : mget ((fs.take j).foldl (stepF wh x) ([], (bestOf look wh (nums.take k)))).2 y.name with | none => rw [h] at hc5; cases hc5 | some c => rfl
                refine awp_skip ?_
                refine x_then ?_
                refine ⟨⟨102, [(1, .a (.fn fa ca)), (2, .a (.fn fw cw)), (7, .a (.v (.map (some b20)))), (21, .a (numsA nums)), (22, .a (.v (.int .i64 ((nums.map fun x => [AV.v (.int .u64 x)]).length)))), (23, .a (.v (.int .i64 ((k : Int))))), (9, .a (.v (.int .u64 x))), (12, .a (.v (.map (some b37)))), (38, .a (files fs)), (39, .a (.v (.int .i64 ((fs.map File.cs).length)))), (40, .a (.v (.int .i64 ((j : Int))))), (14, .a (.v (.pointer (some ⟨b14, 0, none⟩)))), (15, .a (.v (.pointer (some ⟨b15, 0, none⟩))))], [⟨b15, true, .box (Choice.cs ((mget ((fs.take j).foldl (stepF wh x) ([], (bestOf look wh (nums.take k)))).2 y.name).getD ⟨y.name, 0, false, []⟩))⟩, ⟨b14, true, .box (File.cs y)⟩, ⟨b37, true, .map (encM Value.string boolA (mset ((fs.take j).foldl (stepF wh x) ([], (bestOf look wh (nums.take k)))).1 y.name true))⟩, ⟨b20, true, .map (encM Value.string Choice.av ((fs.take j).foldl (stepF wh x) ([], (bestOf look wh (nums.take k)))).2)⟩]⟩, ⟨rfl, (Slots.cons rfl (by first | exact .refl _ | exact .nilOwn _ _ | exact .nilSl _ | exact .ownSl _ _ _ | exact SV.le.of_eq (by simp)) (Slots.cons rfl (by first | exact .refl _ | exact .nilOwn _ _ | exact .nilSl _ | exact .ownSl _ _ _ | exact SV.le.of_eq (by simp)) (Slots.cons rfl (by first | exact .refl _ | exact .nilOwn _ _ | exact .nilSl _ | exact .ownSl _ _ _ | exact SV.le.of_eq (by simp)) (Slots.cons rfl (by first | exact .refl _ | exact .nilOwn _ _ | exact .nilSl _ | exact .ownSl _ _ _ | exact SV.le.of_eq (by simp)) (Slots.cons rfl (by first | exact .refl _ | exact .nilOwn _ _ | exact .nilSl _ | exact .ownSl _ _ _ | exact SV.le.of_eq (by simp)) (Slots.cons rfl (by first | exact .refl _ | exact .nilOwn _ _ | exact .nilSl _ | exact .ownSl _ _ _ | exact SV.le.of_eq (by simp)) (Slots.cons rfl (by first | exact .refl _ | exact .nilOwn _ _ | exact .nilSl _ | exact .ownSl _ _ _ | exact SV.le.of_eq (by simp)) (Slots.cons rfl (by first | exact .refl _ | exact .nilOwn _ _ | exact .nilSl _ | exact .ownSl _ _ _ | exact SV.le.of_eq (by simp)) (Slots.cons rfl (by first | exact .refl _ | exact .nilOwn _ _ | exact .nilSl _ | exact .ownSl _ _ _ | exact SV.le.of_eq (by simp)) (Slots.cons rfl (by first | exact .refl _ | exact .nilOwn _ _ | exact .nilSl _ | exact .ownSl _ _ _ | exact SV.le.of_eq (by simp)) (Slots.cons rfl (by first | exact .refl _ | exact .nilOwn _ _ | exact .nilSl _ | exact .ownSl _ _ _ | exact SV.le.of_eq (by simp)) (Slots.cons rfl (by first | exact .refl _ | exact .nilOwn _ _ | exact .nilSl _ | exact .ownSl _ _ _ | exact SV.le.of_eq (by simp)) (Slots.cons rfl (by first | exact .refl _ | exact .nilOwn _ _ | exact .nilSl _ | exact .ownSl _ _ _ | exact SV.le.of_eq (by simp)) Slots.nil))))))))))))), (by rw [hcc]; first | exact List.Sublist.refl _ | exact List.nil_sublist _ | exact .cons _ (.refl _) | exact .cons _ (.cons _ (.refl _)) | exact .cons _ (.cons _ (.cons _ (.refl _))) | exact .cons _ (.cons _ (.cons _ (.cons _ (.refl _)))) | exact .cons_cons _ (List.nil_sublist _))⟩, rfl⟩
            ·
              rintro _ ⟨rfl⟩
              refine awp_cut (fun S => S = ⟨102, [(1, .a (.fn fa ca)), (2, .a (.fn fw cw)), (7, .a (.v (.map (some b20)))), (21, .a (numsA nums)), (22, .a (.v (.int .i64 ((nums.map fun x => [AV.v (.int .u64 x)]).length)))), (23, .a (.v (.int .i64 ((k : Int))))), (9, .a (.v (.int .u64 x))), (12, .a (.v (.map (some b37)))), (38, .a (files fs)), (39, .a (.v (.int .i64 ((fs.map File.cs).length)))), (40, .a (.v (.int .i64 ((j : Int))))), (14, .a (.v (.pointer (some ⟨b14, 0, none⟩)))), (15, .a (.v (.pointer (some ⟨b15, 0, none⟩))))], [⟨b15, true, .box (Choice.cs (cond (wh y.name y.data) ⟨y.name, x, true, y.data⟩ ((mget ((fs.take j).foldl (stepF wh x) ([], (bestOf look wh (nums.take k)))).2 y.name).getD ⟨y.name, 0, false, []⟩)))⟩, ⟨b14, true, .box (File.cs y)⟩, ⟨b37, true, .map (encM Value.string boolA (mset ((fs.take j).foldl (stepF wh x) ([], (bestOf look wh (nums.take k)))).1 y.name true))⟩, ⟨b20, true, .map (encM Value.string Choice.av ((fs.take j).foldl (stepF wh x) ([], (bestOf look wh (nums.take k)))).2)⟩]⟩) ?_ ?_
              ·
                refine awp_seq ?_
                refine awp_drawS [63, 64, 65, 66, 67, 68, 69, 70, 71] [_, _, _, _, _, _, _, _, _] [] [] T.mixed rfl rfl rfl ⟨⟨⟨⟨⟨⟨⟨⟨⟨trivial
                  , ⟨_, rfl, fun sl hd hr ho => by
                      refine r_move (hr 2 _ rfl rfl rfl) rfl ?_
                      exact awl_nil ⟨rfl, post_put⟩⟩⟩
                  , ⟨_, rfl, fun sl hd hr ho => by
                      first | (refine r_fn_ne (hd 0 _ rfl rfl rfl) T.un37 rfl ?_) | (refine r_nofn_ne (hd 0 _ rfl rfl rfl) T.un37 rfl ?_)
                      exact awl_nil ⟨rfl, post_put⟩⟩⟩
                  , ⟨_, rfl, fun sl hd hr ho => by
                      refine r_move (hd 1 _ rfl rfl rfl) rfl ?_
                      exact awl_nil ⟨rfl, post_put⟩⟩⟩
                  , ⟨_, rfl, fun sl hd hr ho => by
                      refine g_run rfl (hd 2 _ rfl rfl rfl) rfl ?_
                      refine r_move (hr 2 _ rfl rfl rfl) rfl ?_
                      exact awl_nil ⟨rfl, post_put⟩⟩⟩
                  , ⟨_, rfl, fun sl hd hr ho => by
                      refine g_run rfl (hd 2 _ rfl rfl rfl) rfl ?_
                      first | (refine r_fieldcp (hr 14 _ rfl rfl rfl) T.f50_0 T.sz9 rfl ?_) | (refine r_fieldb (hr 14 _ rfl rfl rfl) T.f50_0 T.sz9 rfl ?_)
                      exact awl_nil ⟨rfl, post_put⟩⟩⟩
                  , ⟨_, rfl, fun sl hd hr ho => by
                      refine g_run rfl (hd 2 _ rfl rfl rfl) rfl ?_
                      first | (refine r_load1 (hd 4 _ rfl rfl rfl) T.agg9 rfl ?_) | (refine r_load1b 0 (hd 4 _ rfl rfl rfl) rfl rfl T.agg9 rfl ?_) | (refine r_load1b 1 (hd 4 _ rfl rfl rfl) rfl rfl T.agg9 rfl ?_) | (refine r_load1b 2 (hd 4 _ rfl rfl rfl) rfl rfl T.agg9 rfl ?_) | (refine r_load1b 3 (hd 4 _ rfl rfl rfl) rfl rfl T.agg9 rfl ?_)
                      exact awl_nil ⟨rfl, post_put⟩⟩⟩
                  , ⟨_, rfl, fun sl hd hr ho => by
                      refine g_run rfl (hd 2 _ rfl rfl rfl) rfl ?_
                      first | (refine r_fieldcp (hr 14 _ rfl rfl rfl) T.f50_1 T.sz31 rfl ?_) | (refine r_fieldb (hr 14 _ rfl rfl rfl) T.f50_1 T.sz31 rfl ?_)
                      exact awl_nil ⟨rfl, post_put⟩⟩⟩
                  , ⟨_, rfl, fun sl hd hr ho => by
                      refine g_run rfl (hd 2 _ rfl rfl rfl) rfl ?_
                      first | (refine r_load1 (hd 6 _ rfl rfl rfl) T.agg31 rfl ?_) | (refine r_load1b 0 (hd 6 _ rfl rfl rfl) rfl rfl T.agg31 rfl ?_) | (refine r_load1b 1 (hd 6 _ rfl rfl rfl) rfl rfl T.agg31 rfl ?_) | (refine r_load1b 2 (hd 6 _ rfl rfl rfl) rfl rfl T.agg31 rfl ?_) | (refine r_load1b 3 (hd 6 _ rfl rfl rfl) rfl rfl T.agg31 rfl ?_)
                      exact awl_nil ⟨rfl, post_put⟩⟩⟩
                  , ⟨_, rfl, fun sl hd hr ho => by
                      refine g_run rfl (hd 2 _ rfl rfl rfl) rfl ?_
                      refine r_call0 rfl rfl (.cons (.ev (hd 7 _ rfl rfl rfl) rfl) .nil) (clone_ok y.data hyd) rfl T.en30 rfl (fun r hr => ?_)
                      obtain rfl := hr
                      exact awl_nil ⟨rfl, post_put⟩⟩⟩
                  (by rfl) ?_
                refine g_run rfl rfl rfl ?_
                refine r_call0 rfl rfl (.cons (.ev rfl rfl) (.cons (.ev rfl rfl) .nil)) (hw y.name y.data hyd) rfl hew rfl (fun r hr => ?_)
                obtain rfl := hr
                refine r_pickT rfl rfl rfl rfl ?_
                refine awl_nil ?_
                refine x_then ?_
                refine awp_cond rfl (fun hc6 => ?_) (fun hc6 => ?_)
                ·
                  have hc7 : (cond (wh y.name y.data) ⟨y.name, x, true, y.data⟩ ((mget ((fs.take j).foldl (stepF wh x) ([], (bestOf look wh (nums.take k)))).2 y.name).getD ⟨y.name, 0, false, []⟩) : Choice) = ⟨y.name, x, true, y.data⟩ := by rw [hc6]; rfl
                  refine awp_drawS [74, 75, 76, 77, 78, 79] [_, _, _, _, _, _] [] [] T.mixed rfl rfl rfl ⟨⟨⟨⟨⟨⟨trivial
                    , ⟨_, rfl, fun sl hd hr ho => by
                        first | (refine r_fieldcp (hr 14 _ rfl rfl rfl) T.f50_0 T.sz9 rfl ?_) | (refine r_fieldb (hr 14 _ rfl rfl rfl) T.f50_0 T.sz9 rfl ?_)
                        exact awl_nil ⟨rfl, post_put⟩⟩⟩
                    , ⟨_, rfl, fun sl hd hr ho => by
                        first | (refine r_load1 (hd 0 _ rfl rfl rfl) T.agg9 rfl ?_) | (refine r_load1b 0 (hd 0 _ rfl rfl rfl) rfl rfl T.agg9 rfl ?_) | (refine r_load1b 1 (hd 0 _ rfl rfl rfl) rfl rfl T.agg9 rfl ?_) | (refine r_load1b 2 (hd 0 _ rfl rfl rfl) rfl rfl T.agg9 rfl ?_) | (refine r_load1b 3 (hd 0 _ rfl rfl rfl) rfl rfl T.agg9 rfl ?_)
                        exact awl_nil ⟨rfl, post_put⟩⟩⟩
                    , ⟨_, rfl, fun sl hd hr ho => by
                        refine r_move (hr 9 _ rfl rfl rfl) rfl ?_
                        exact awl_nil ⟨rfl, post_put⟩⟩⟩
                    , ⟨_, rfl, fun sl hd hr ho => by
                        first | (refine r_fieldcp (hr 14 _ rfl rfl rfl) T.f50_1 T.sz31 rfl ?_) | (refine r_fieldb (hr 14 _ rfl rfl rfl) T.f50_1 T.sz31 rfl ?_)
                        exact awl_nil ⟨rfl, post_put⟩⟩⟩
                    , ⟨_, rfl, fun sl hd hr ho => by
                        first | (refine r_load1 (hd 3 _ rfl rfl rfl) T.agg31 rfl ?_) | (refine r_load1b 0 (hd 3 _ rfl rfl rfl) rfl rfl T.agg31 rfl ?_) | (refine r_load1b 1 (hd 3 _ rfl rfl rfl) rfl rfl T.agg31 rfl ?_) | (refine r_load1b 2 (hd 3 _ rfl rfl rfl) rfl rfl T.agg31 rfl ?_) | (refine r_load1b 3 (hd 3 _ rfl rfl rfl) rfl rfl T.agg31 rfl ?_)
                        exact awl_nil ⟨rfl, post_put⟩⟩⟩
                    , ⟨_, rfl, fun sl hd hr ho => by
                        refine r_call0 rfl rfl (.cons (.ev (hd 4 _ rfl rfl rfl) rfl) .nil) (clone_ok y.data hyd) rfl T.en30 rfl (fun r hr => ?_)
                        obtain rfl := hr
                        exact awl_nil ⟨rfl, post_put⟩⟩⟩
                    (by rfl) ?_
                  refine r_build (parts := [(0, .tmp 75), (1, .tmp 76), (2, .const ((Go.Value.bool true))), (3, .tmp 79)]) rfl T.pl33 T.zero33 rfl rfl rfl ?_
                  first | (refine r_store 0 rfl rfl rfl T.sz33 rfl rfl rfl ?_) | (refine r_store 1 rfl rfl rfl T.sz33 rfl rfl rfl ?_) | (refine r_store 2 rfl rfl rfl T.sz33 rfl rfl rfl ?_) | (refine r_store 3 rfl rfl rfl T.sz33 rfl rfl rfl ?_)
                  refine awl_nil ?_
                  refine x_then ?_
                  refine ⟨⟨102, [(1, .a (.fn fa ca)), (2, .a (.fn fw cw)), (7, .a (.v (.map (some b20)))), (21, .a (numsA nums)), (22, .a (.v (.int .i64 ((nums.map fun x => [AV.v (.int .u64 x)]).length)))), (23, .a (.v (.int .i64 ((k : Int))))), (9, .a (.v (.int .u64 x))), (12, .a (.v (.map (some b37)))), (38, .a (files fs)), (39, .a (.v (.int .i64 ((fs.map File.cs).length)))), (40, .a (.v (.int .i64 ((j : Int))))), (14, .a (.v (.pointer (some ⟨b14, 0, none⟩)))), (15, .a (.v (.pointer (some ⟨b15, 0, none⟩))))], [⟨b15, true, .box (Choice.cs (cond (wh y.name y.data) ⟨y.name, x, true, y.data⟩ ((mget ((fs.take j).foldl (stepF wh x) ([], (bestOf look wh (nums.take k)))).2 y.name).getD ⟨y.name, 0, false, []⟩)))⟩, ⟨b14, true, .box (File.cs y)⟩, ⟨b37, true, .map (encM Value.string boolA (mset ((fs.take j).foldl (stepF wh x) ([], (bestOf look wh (nums.take k)))).1 y.name true))⟩, ⟨b20, true, .map (encM Value.string Choice.av ((fs.take j).foldl (stepF wh x) ([], (bestOf look wh (nums.take k)))).2)⟩]⟩, ⟨rfl, (Slots.cons rfl (by first | exact .refl _ | exact .nilOwn _ _ | exact .nilSl _ | exact .ownSl _ _ _ | exact SV.le.of_eq (by simp)) (Slots.cons rfl (by first | exact .refl _ | exact .nilOwn _ _ | exact .nilSl _ | exact .ownSl _ _ _ | exact SV.le.of_eq (by simp)) (Slots.cons rfl (by first | exact .refl _ | exact .nilOwn _ _ | exact .nilSl _ | exact .ownSl _ _ _ | exact SV.le.of_eq (by simp)) (Slots.cons rfl (by first | exact .refl _ | exact .nilOwn _ _ | exact .nilSl _ | exact .ownSl _ _ _ | exact SV.le.of_eq (by simp)) (Slots.cons rfl (by first | exact .refl _ | exact .nilOwn _ _ | exact .nilSl _ | exact .ownSl _ _ _ | exact SV.le.of_eq (by simp)) (Slots.cons rfl (by first | exact .refl _ | exact .nilOwn _ _ | exact .nilSl _ | exact .ownSl _ _ _ | exact SV.le.of_eq (by simp)) (Slots.cons rfl (by first | exact .refl _ | exact .nilOwn _ _ | exact .nilSl _ | exact .ownSl _ _ _ | exact SV.le.of_eq (by simp)) (Slots.cons rfl (by first | exact .refl _ | exact .nilOwn _ _ | exact .nilSl _ | exact .ownSl _ _ _ | exact SV.le.of_eq (by simp)) (Slots.cons rfl (by first | exact .refl _ | exact .nilOwn _ _ | exact .nilSl _ | exact .ownSl _ _ _ | exact SV.le.of_eq (by simp)) (Slots.cons rfl (by first | exact .refl _ | exact .nilOwn _ _ | exact .nilSl _ | exact .ownSl _ _ _ | exact SV.le.of_eq (by simp)) (Slots.cons rfl (by first | exact .refl _ | exact .nilOwn _ _ | exact .nilSl _ | exact .ownSl _ _ _ | exact SV.le.of_eq (by simp)) (Slots.cons rfl (by first | exact .refl _ | exact .nilOwn _ _ | exact .nilSl _ | exact .ownSl _ _ _ | exact SV.le.of_eq (by simp)) (Slots.cons rfl (by first | exact .refl _ | exact .nilOwn _ _ | exact .nilSl _ | exact .ownSl _ _ _ | exact SV.le.of_eq (by simp)) Slots.nil))))))))))))), (by rw [hc7]; first | exact List.Sublist.refl _ | exact List.nil_sublist _ | exact .cons _ (.refl _) | exact .cons _ (.cons _ (.refl _)) | exact .cons _ (.cons _ (.cons _ (.refl _))) | exact .cons _ (.cons _ (.cons _ (.cons _ (.refl _)))) | exact .cons_cons _ (List.nil_sublist _))⟩, rfl⟩
                ·
                  have hc7 : (cond (wh y.name y.data) ⟨y.name, x, true, y.data⟩ ((mget ((fs.take j).foldl (stepF wh x) ([], (bestOf look wh (nums.take k)))).2 y.name).getD ⟨y.name, 0, false, []⟩) : Choice) = ((mget ((fs.take j).foldl (stepF wh x) ([], (bestOf look wh (nums.take k)))).2 y.name).getD ⟨y.name, 0, false, []⟩) := by rw [hc6]; rfl
                  refine awp_skip ?_
                  refine x_then ?_
                  refine ⟨⟨102, [(1, .a (.fn fa ca)), (2, .a (.fn fw cw)), (7, .a (.v (.map (some b20)))), (21, .a (numsA nums)), (22, .a (.v (.int .i64 ((nums.map fun x => [AV.v (.int .u64 x)]).length)))), (23, .a (.v (.int .i64 ((k : Int))))), (9, .a (.v (.int .u64 x))), (12, .a (.v (.map (some b37)))), (38, .a (files fs)), (39, .a (.v (.int .i64 ((fs.map File.cs).length)))), (40, .a (.v (.int .i64 ((j : Int))))), (14, .a (.v (.pointer (some ⟨b14, 0, none⟩)))), (15, .a (.v (.pointer (some ⟨b15, 0, none⟩))))], [⟨b15, true, .box (Choice.cs (cond (wh y.name y.data) ⟨y.name, x, true, y.data⟩ ((mget ((fs.take j).foldl (stepF wh x) ([], (bestOf look wh (nums.take k)))).2 y.name).getD ⟨y.name, 0, false, []⟩)))⟩, ⟨b14, true, .box (File.cs y)⟩, ⟨b37, true, .map (encM Value.string boolA (mset ((fs.take j).foldl (stepF wh x) ([], (bestOf look wh (nums.take k)))).1 y.name true))⟩, ⟨b20, true, .map (encM Value.string Choice.av ((fs.take j).foldl (stepF wh x) ([], (bestOf look wh (nums.take k)))).2)⟩]⟩, ⟨rfl, (Slots.cons rfl (by first | exact .refl _ | exact .nilOwn _ _ | exact .nilSl _ | exact .ownSl _ _ _ | exact SV.le.of_eq (by simp)) (Slots.cons rfl (by first | exact .refl _ | exact .nilOwn _ _ | exact .nilSl _ | exact .ownSl _ _ _ | exact SV.le.of_eq (by simp)) (Slots.cons rfl (by first | exact .refl _ | exact .nilOwn _ _ | exact .nilSl _ | exact .ownSl _ _ _ | exact SV.le.of_eq (by simp)) (Slots.cons rfl (by first | exact .refl _ | exact .nilOwn _ _ | exact .nilSl _ | exact .ownSl _ _ _ | exact SV.le.of_eq (by simp)) (Slots.cons rfl (by first | exact .refl _ | exact .nilOwn _ _ | exact .nilSl _ | exact .ownSl _ _ _ | exact SV.le.of_eq (by simp)) (Slots.cons rfl (by first | exact .refl _ | exact .nilOwn _ _ | exact .nilSl _ | exact .ownSl _ _ _ | exact SV.le.of_eq (by simp)) (Slots.cons rfl (by first | exact .refl _ | exact .nilOwn _ _ | exact .nilSl _ | exact .ownSl _ _ _ | exact SV.le.of_eq (by simp)) (Slots.cons rfl (by first | exact .refl _ | exact .nilOwn _ _ | exact .nilSl _ | exact .ownSl _ _ _ | exact SV.le.of_eq (by simp)) (Slots.cons rfl (by first | exact .refl _ | exact .nilOwn _ _ | exact .nilSl _ | exact .ownSl _ _ _ | exact SV.le.of_eq (by simp)) (Slots.cons rfl (by first | exact .refl _ | exact .nilOwn _ _ | exact .nilSl _ | exact .ownSl _ _ _ | exact SV.le.of_eq (by simp)) (Slots.cons rfl (by first | exact .refl _ | exact .nilOwn _ _ | exact .nilSl _ | exact .ownSl _ _ _ | exact SV.le.of_eq (by simp)) (Slots.cons rfl (by first | exact .refl _ | exact .nilOwn _ _ | exact .nilSl _ | exact .ownSl _ _ _ | exact SV.le.of_eq (by simp)) (Slots.cons rfl (by first | exact .refl _ | exact .nilOwn _ _ | exact .nilSl _ | exact .ownSl _ _ _ | exact SV.le.of_eq (by simp)) Slots.nil))))))))))))), (by rw [hc7]; first | exact List.Sublist.refl _ | exact List.nil_sublist _ | exact .cons _ (.refl _) | exact .cons _ (.cons _ (.refl _)) | exact .cons _ (.cons _ (.cons _ (.refl _))) | exact .cons _ (.cons _ (.cons _ (.cons _ (.refl _)))) | exact .cons_cons _ (List.nil_sublist _))⟩, rfl⟩
              ·
                rintro _ ⟨rfl⟩
                refine awp_region ?_
                refine r_move rfl rfl ?_
                first | (refine r_fieldcp rfl T.f50_0 T.sz9 rfl ?_) | (refine r_fieldb rfl T.f50_0 T.sz9 rfl ?_)
                first | (refine r_load1 rfl T.agg9 rfl ?_) | (refine r_load1b 0 rfl rfl rfl T.agg9 rfl ?_) | (refine r_load1b 1 rfl rfl rfl T.agg9 rfl ?_) | (refine r_load1b 2 rfl rfl rfl T.agg9 rfl ?_) | (refine r_load1b 3 rfl rfl rfl T.agg9 rfl ?_)
                first | (refine r_loadA rfl T.agg33 T.sz33 rfl rfl ?_) | (refine r_loadAb 0 rfl rfl T.agg33 T.sz33 rfl rfl ?_) | (refine r_loadAb 1 rfl rfl T.agg33 T.sz33 rfl rfl ?_) | (refine r_loadAb 2 rfl rfl T.agg33 T.sz33 rfl rfl ?_) | (refine r_loadAb 3 rfl rfl T.agg33 T.sz33 rfl rfl ?_)
                first | (refine r_mapUpdate 0 (keyEnc_string T.un9) (ev := Choice.av) ((cond (wh y.name y.data) ⟨y.name, x, true, y.data⟩ ((mget ((fs.take j).foldl (stepF wh x) ([], (bestOf look wh (nums.take k)))).2 y.name).getD ⟨y.name, 0, false, []⟩)) : Choice) rfl rfl rfl rfl rfl T.map71 ?_) | (refine r_mapUpdate 1 (keyEnc_string T.un9) (ev := Choice.av) ((cond (wh y.name y.data) ⟨y.name, x, true, y.data⟩ ((mget ((fs.take j).foldl (stepF wh x) ([], (bestOf look wh (nums.take k)))).2 y.name).getD ⟨y.name, 0, false, []⟩)) : Choice) rfl rfl rfl rfl rfl T.map71 ?_) | (refine r_mapUpdate 2 (keyEnc_string T.un9) (ev := Choice.av) ((cond (wh y.name y.data) ⟨y.name, x, true, y.data⟩ ((mget ((fs.take j).foldl (stepF wh x) ([], (bestOf look wh (nums.take k)))).2 y.name).getD ⟨y.name, 0, false, []⟩)) : Choice) rfl rfl rfl rfl rfl T.map71 ?_) | (refine r_mapUpdate 3 (keyEnc_string T.un9) (ev := Choice.av) ((cond (wh y.name y.data) ⟨y.name, x, true, y.data⟩ ((mget ((fs.take j).foldl (stepF wh x) ([], (bestOf look wh (nums.take k)))).2 y.name).getD ⟨y.name, 0, false, []⟩)) : Choice) rfl rfl rfl rfl rfl T.map71 ?_)
                refine awl_nil ?_
                refine x_block ?_
                refine x_then ?_
                refine awp_region ?_
                refine r_ari _ rfl rfl rfl (wrap_id (by omega)) rfl ?_
                refine r_move rfl rfl ?_
                refine awl_nil ?_
                refine x_then ?_
                refine ⟨fs.length - (j + 1), ⟨102, [(1, .a (.fn fa ca)), (2, .a (.fn fw cw)), (7, .a (.v (.map (some b20)))), (21, .a (numsA nums)), (22, .a (.v (.int .i64 ((nums.map fun x => [AV.v (.int .u64 x)]).length)))), (23, .a (.v (.int .i64 ((k : Int))))), (9, .a (.v (.int .u64 x))), (12, .a (.v (.map (some b37)))), (38, .a (files fs)), (39, .a (.v (.int .i64 ((fs.map File.cs).length)))), (40, .a (.v (.int .i64 (((j + 1) : Int)))))], [⟨b37, true, .map (encM Value.string boolA ((fs.take (j + 1)).foldl (stepF wh x) ([], (bestOf look wh (nums.take k)))).1)⟩, ⟨b20, true, .map (encM Value.string Choice.av ((fs.take (j + 1)).foldl (stepF wh x) ([], (bestOf look wh (nums.take k)))).2)⟩]⟩, ⟨rfl, (Slots.cons rfl (by first | exact .refl _ | exact .nilOwn _ _ | exact .nilSl _ | exact .ownSl _ _ _ | exact SV.le.of_eq (by simp)) (Slots.cons rfl (by first | exact .refl _ | exact .nilOwn _ _ | exact .nilSl _ | exact .ownSl _ _ _ | exact SV.le.of_eq (by simp)) (Slots.cons rfl (by first | exact .refl _ | exact .nilOwn _ _ | exact .nilSl _ | exact .ownSl _ _ _ | exact SV.le.of_eq (by simp)) (Slots.cons rfl (by first | exact .refl _ | exact .nilOwn _ _ | exact .nilSl _ | exact .ownSl _ _ _ | exact SV.le.of_eq (by simp)) (Slots.cons rfl (by first | exact .refl _ | exact .nilOwn _ _ | exact .nilSl _ | exact .ownSl _ _ _ | exact SV.le.of_eq (by simp)) (Slots.cons rfl (by first | exact .refl _ | exact .nilOwn _ _ | exact .nilSl _ | exact .ownSl _ _ _ | exact SV.le.of_eq (by simp)) (Slots.cons rfl (by first | exact .refl _ | exact .nilOwn _ _ | exact .nilSl _ | exact .ownSl _ _ _ | exact SV.le.of_eq (by simp)) (Slots.cons rfl (by first | exact .refl _ | exact .nilOwn _ _ | exact .nilSl _ | exact .ownSl _ _ _ | exact SV.le.of_eq (by simp)) (Slots.cons rfl (by first | exact .refl _ | exact .nilOwn _ _ | exact .nilSl _ | exact .ownSl _ _ _ | exact SV.le.of_eq (by simp)) (Slots.cons rfl (by first | exact .refl _ | exact .nilOwn _ _ | exact .nilSl _ | exact .ownSl _ _ _ | exact SV.le.of_eq (by simp)) (Slots.cons rfl (by first | exact .refl _ | exact .nilOwn _ _ | exact .nilSl _ | exact .ownSl _ _ _ | exact SV.le.of_eq (by simp)) Slots.nil))))))))))), (by rw [e2]; first | exact List.Sublist.refl _ | exact List.nil_sublist _ | exact .cons _ (.refl _) | exact .cons _ (.cons _ (.refl _)) | exact .cons _ (.cons _ (.cons _ (.refl _))) | exact .cons _ (.cons _ (.cons _ (.cons _ (.refl _)))) | exact .cons_cons _ (List.nil_sublist _))⟩, (by omega), ⟨j + 1, rfl, rfl, (by have := (List.getElem?_eq_some_iff.1 hy).1; omega)⟩⟩
        ·
          have hgej : fs.length ≤ j := by have := of_decide_eq_false hc3; simp at this; omega
          rw [← List.take_of_length_le hgej] at e
          refine awp_exit ?_
          refine x_thenE ?_
          refine x_thenE ?_
          refine x_blockE ?_
          refine x_block ?_
          refine x_then ?_
          refine awp_region ?_
          refine r_ari _ rfl rfl rfl (wrap_id (by omega)) rfl ?_
          refine r_move rfl rfl ?_
          refine awl_nil ?_
          refine x_then ?_
          refine ⟨nums.length - (k + 1), ⟨102, [(1, .a (.fn fa ca)), (2, .a (.fn fw cw)), (7, .a (.v (.map (some b20)))), (21, .a (numsA nums)), (22, .a (.v (.int .i64 ((nums.map fun x => [AV.v (.int .u64 x)]).length)))), (23, .a (.v (.int .i64 (((k + 1) : Int)))))], [⟨b20, true, .map (encM Value.string Choice.av (bestOf look wh (nums.take (k + 1))))⟩]⟩, ⟨rfl, (Slots.cons rfl (by first | exact .refl _ | exact .nilOwn _ _ | exact .nilSl _ | exact .ownSl _ _ _ | exact SV.le.of_eq (by simp)) (Slots.cons rfl (by first | exact .refl _ | exact .nilOwn _ _ | exact .nilSl _ | exact .ownSl _ _ _ | exact SV.le.of_eq (by simp)) (Slots.cons rfl (by first | exact .refl _ | exact .nilOwn _ _ | exact .nilSl _ | exact .ownSl _ _ _ | exact SV.le.of_eq (by simp)) (Slots.cons rfl (by first | exact .refl _ | exact .nilOwn _ _ | exact .nilSl _ | exact .ownSl _ _ _ | exact SV.le.of_eq (by simp)) (Slots.cons rfl (by first | exact .refl _ | exact .nilOwn _ _ | exact .nilSl _ | exact .ownSl _ _ _ | exact SV.le.of_eq (by simp)) (Slots.cons rfl (by first | exact .refl _ | exact .nilOwn _ _ | exact .nilSl _ | exact .ownSl _ _ _ | exact SV.le.of_eq (by simp)) Slots.nil)))))), (by rw [e]; first | exact List.Sublist.refl _ | exact List.nil_sublist _ | exact .cons _ (.refl _) | exact .cons _ (.cons _ (.refl _)) | exact .cons _ (.cons _ (.cons _ (.refl _))) | exact .cons _ (.cons _ (.cons _ (.cons _ (.refl _)))) | exact .cons_cons _ (List.nil_sublist _))⟩, (by omega), ⟨k + 1, rfl, rfl, (by have := (List.getElem?_eq_some_iff.1 hx).1; omega)⟩⟩
  ·
    have hge : nums.length ≤ k := by have := of_decide_eq_false hc0; simp at this; omega
    have hkl : nums.take k = nums := List.take_of_length_le hge
    refine awp_exit ?_
    refine x_thenE ?_
    refine x_thenE ?_
    refine x_blockE ?_
    refine x_then ?_
    refine awp_seq ?_
    refine awp_region ?_
    refine r_assign rfl rfl ?_
    refine awl_nil ?_
    refine x_then ?_
    refine awp_seq ?_
    refine awp_seq ?_
    refine awp_region ?_
    refine r_move rfl rfl ?_
    refine r_callO rfl rfl (.cons (.ev rfl rfl) .nil) (sortedC_ok (encM_keys (ek := Value.string) (ev := Choice.av) (bestOf look wh (nums.take k))) (best_nodup look wh _) (fun s hs => by rw [hkl] at hs; exact hbn s hs) (by rw [encM_len, hkl]; omega)) rfl T.en31 (.refl _) rfl (fun r nobjs hr => ?_)
    obtain ⟨rfl, rfl⟩ := hr
    rw [hkl]
    generalize hns : sortB ((bestOf look wh nums).map (·.1)) = ns
    have hnl : ns.length ≤ 1000000 := by rw [← hns, sortB_len, List.length_map]; omega
    first | (refine r_lenS rfl rfl T.sl46 rfl ?_) | (refine r_lenNil rfl T.sl46 rfl ?_)
    refine r_move rfl rfl ?_
    refine awl_nil ?_
    refine x_then ?_
    refine awp_block ?_
    refine awp_loop (fun nn0 S => ∃ i : Nat, S = ⟨102, [(7, .a (.v (.map (some b20)))), (17, .own 17 4 (((ns.take i).map fun n => (mget (bestOf look wh nums) n).getD .zero).map Choice.cs)), (88, .a (strsA ns)), (89, .a (.v (.int .i64 ((ns.map fun s => [AV.v (.string s)]).length)))), (90, .a (.v (.int .i64 ((i : Int)))))], [⟨b20, true, .map (encM Value.string Choice.av (bestOf look wh nums))⟩]⟩ ∧ nn0 = ns.length - i ∧ (i ≤ ns.length)) (ns.length - (0)) ⟨102, [(7, .a (.v (.map (some b20)))), (17, .own 17 4 (((ns.take (0)).map fun n => (mget (bestOf look wh nums) n).getD .zero).map Choice.cs)), (88, .a (strsA ns)), (89, .a (.v (.int .i64 ((ns.map fun s => [AV.v (.string s)]).length)))), (90, .a (.v (.int .i64 (((0) : Int)))))], [⟨b20, true, .map (encM Value.string Choice.av (bestOf look wh nums))⟩]⟩ ⟨rfl, (Slots.cons rfl (by first | exact .refl _ | exact .nilOwn _ _ | exact .nilSl _ | exact .ownSl _ _ _ | exact SV.le.of_eq (by simp)) (Slots.cons rfl (by first | exact .refl _ | exact .nilOwn _ _ | exact .nilSl _ | exact .ownSl _ _ _ | exact SV.le.of_eq (by simp)) (Slots.cons rfl (by first | exact .refl _ | exact .nilOwn _ _ | exact .nilSl _ | exact .ownSl _ _ _ | exact SV.le.of_eq (by simp)) (Slots.cons rfl (by first | exact .refl _ | exact .nilOwn _ _ | exact .nilSl _ | exact .ownSl _ _ _ | exact SV.le.of_eq (by simp)) (Slots.cons rfl (by first | exact .refl _ | exact .nilOwn _ _ | exact .nilSl _ | exact .ownSl _ _ _ | exact SV.le.of_eq (by simp)) Slots.nil))))), (by first | exact List.Sublist.refl _ | exact List.nil_sublist _ | exact .cons _ (.refl _) | exact .cons _ (.cons _ (.refl _)) | exact .cons _ (.cons _ (.cons _ (.refl _))) | exact .cons _ (.cons _ (.cons _ (.cons _ (.refl _)))) | exact .cons_cons _ (List.nil_sublist _))⟩ ⟨0, rfl, rfl, Nat.zero_le _⟩ ?_
    rintro nn0 _ ⟨i, rfl, rfl, hi⟩
    refine awp_seq ?_
    refine awp_region ?_
    refine r_cmp rfl rfl rfl rfl ?_
    refine awl_nil ?_
    refine x_then ?_
    refine awp_seq ?_
    refine awp_cond rfl (fun hc7 => ?_) (fun hc7 => ?_)
    ·
      have hlti : i < ns.length := by have := of_decide_eq_true hc7; simpa using this
      obtain ⟨z, hz⟩ := get_lt hlti
      have e3 : ((ns.take (i + 1)).map fun n => (mget (bestOf look wh nums) n).getD .zero).map Choice.cs = ((ns.take i).map fun n => (mget (bestOf look wh nums) n).getD .zero).map Choice.cs ++ [Choice.cs ((mget (bestOf look wh nums) z).getD .zero)] := by rw [map_take hz, List.map_append]; rfl
      refine awp_skip ?_
      refine x_then ?_
      refine awp_seq ?_
      refine awp_block ?_
      refine awp_seq ?_
      refine awp_region ?_
      refine r_index rfl rfl rfl T.sl46 T.sz9 (by omega) (get_map hz) rfl ?_
      first | (refine r_load1 rfl T.agg9 rfl ?_) | (refine r_load1b 0 rfl rfl rfl T.agg9 rfl ?_)
      refine r_assign rfl rfl ?_
      refine awl_nil ?_
      refine x_then ?_
      refine awp_region ?_
      refine r_move rfl rfl ?_
      refine r_move rfl rfl ?_
      refine r_move rfl rfl ?_
      refine r_lookup 0 (keyEnc_string T.un9) (ev := Choice.av) Choice.zero rfl rfl rfl T.map71 T.zav33 rfl ?_
      refine r_lit 98 (parts := [(0, .tmp 97)]) rfl T.sl26 T.sz33 T.zraw33 rfl rfl rfl rfl rfl rfl rfl ?_
      refine r_append 17 rfl (by first | exact .own _ | exact .nil) rfl (by first | exact .sl _ | exact .own _ _ | exact .nil) T.sl26 T.sz33 (by decide) T.by33 T.zlen33 (by simp [chunks] <;> omega) (by simp [chunks] <;> omega) rfl ?_
      refine r_assign rfl rfl ?_
      refine awl_nil ?_
      refine x_block ?_
      refine x_then ?_
      refine awp_region ?_
      refine r_ari _ rfl rfl rfl (wrap_id (by omega)) rfl ?_
      refine r_move rfl rfl ?_
      refine awl_nil ?_
      refine x_then ?_
      refine ⟨ns.length - (i + 1), ⟨102, [(7, .a (.v (.map (some b20)))), (17, .own 17 4 (((ns.take (i + 1)).map fun n => (mget (bestOf look wh nums) n).getD .zero).map Choice.cs)), (88, .a (strsA ns)), (89, .a (.v (.int .i64 ((ns.map fun s => [AV.v (.string s)]).length)))), (90, .a (.v (.int .i64 (((i + 1) : Int)))))], [⟨b20, true, .map (encM Value.string Choice.av (bestOf look wh nums))⟩]⟩, ⟨rfl, (Slots.cons rfl (by first | exact .refl _ | exact .nilOwn _ _ | exact .nilSl _ | exact .ownSl _ _ _ | exact SV.le.of_eq (by rw [e3] <;> rfl)) (Slots.cons rfl (by first | exact .refl _ | exact .nilOwn _ _ | exact .nilSl _ | exact .ownSl _ _ _ | exact SV.le.of_eq (by rw [e3] <;> rfl)) (Slots.cons rfl (by first | exact .refl _ | exact .nilOwn _ _ | exact .nilSl _ | exact .ownSl _ _ _ | exact SV.le.of_eq (by rw [e3] <;> rfl)) (Slots.cons rfl (by first | exact .refl _ | exact .nilOwn _ _ | exact .nilSl _ | exact .ownSl _ _ _ | exact SV.le.of_eq (by rw [e3] <;> rfl)) (Slots.cons rfl (by first | exact .refl _ | exact .nilOwn _ _ | exact .nilSl _ | exact .ownSl _ _ _ | exact SV.le.of_eq (by rw [e3] <;> rfl)) Slots.nil))))), (by first | exact List.Sublist.refl _ | exact List.nil_sublist _ | exact .cons _ (.refl _) | exact .cons _ (.cons _ (.refl _)) | exact .cons _ (.cons _ (.cons _ (.refl _))) | exact .cons _ (.cons _ (.cons _ (.cons _ (.refl _)))) | exact .cons_cons _ (List.nil_sublist _))⟩, (by omega), ⟨i + 1, rfl, rfl, (by have := (List.getElem?_eq_some_iff.1 hz).1; omega)⟩⟩
    ·
      have hgei : ns.length ≤ i := by have := of_decide_eq_false hc7; simp at this; omega
      have hil : ns.take i = ns := List.take_of_length_le hgei
      refine awp_exit ?_
      refine x_thenE ?_
      refine x_thenE ?_
      refine x_blockE ?_
      refine x_then ?_
      refine awp_seq ?_
      refine awp_region ?_
      refine r_move rfl rfl ?_
      refine r_assign rfl rfl ?_
      refine awl_nil ?_
      refine x_then ?_
      refine awp_ret ?_
      exact ⟨(.inl rfl), _, [], (.one (by first | exact .mk rfl rfl | exact .nil rfl)), ⟨rfl, by rw [hil, ← hns]; rfl⟩, (List.nil_sublist _), (by simp)⟩

theorem plan_nowh (nums : List Int) (look : Int → Option (List File))  (hnl : nums.length ≤ 1000000) (hfs : ∀ m ∈ nums, ∀ fs, look m = some fs → fs.length ≤ 1000000 ∧ ∀ f ∈ fs, f.data.length ≤ 1000000)
    {fa : Nat} {ca : List AV} (hea : entersT Try.prog fa) (ha : ∀ m ∈ nums, AC Try.prog fa (.v (.int .u64 m) :: ca) [] (fun r n => n = [] ∧ r = atR (look m))) 
    (hbl : (bestOf look (fun _ _ => false) nums).length ≤ 1000000) (hbn : ∀ s ∈ (bestOf look (fun _ _ => false) nums).map (·.1), s.size ≤ maxLen) :
    AC Try.prog 11 [numsA nums, .fn fa ca, .v .nilFunc] [] (fun r n => n = [] ∧ r = choicesA (planOf look (fun _ _ => false) nums)) := by
  refine ac_of_awp (rs := [6]) (nt := 102) Try.func11 rfl rfl rfl rfl (fun w0 C0 => ?_)
  refine awp_seq ?_
  refine awp_region ?_
  refine r_assign rfl rfl ?_
  refine awl_nil ?_
  refine x_then ?_
  refine awp_seq ?_
  refine awp_region ?_
  refine r_makeMap (ek := Value.string) (ev := Choice.av) [] rfl rfl (fun b20 => ?_)
  refine r_assign rfl rfl ?_
  refine awl_nil ?_
  refine x_then ?_
  refine awp_seq ?_
  refine awp_seq ?_
  refine awp_region ?_
  refine r_move rfl rfl ?_
  first | (refine r_lenS rfl rfl T.sl23 rfl ?_) | (refine r_lenNil rfl T.sl23 rfl ?_)
  refine r_move rfl rfl ?_
  refine awl_nil ?_
  refine x_then ?_
  refine awp_block ?_
  refine awp_loop (fun nn0 S => ∃ k : Nat, S = ⟨102, [(1, .a (.fn fa ca)), (2, .a (.v .nilFunc)), (7, .a (.v (.map (some b20)))), (21, .a (numsA nums)), (22, .a (.v (.int .i64 ((nums.map fun x => [AV.v (.int .u64 x)]).length)))), (23, .a (.v (.int .i64 ((k : Int)))))], [⟨b20, true, .map (encM Value.string Choice.av (bestOf look (fun _ _ => false) (nums.take k)))⟩]⟩ ∧ nn0 = nums.length - k ∧ (k ≤ nums.length)) (nums.length - (0)) ⟨102, [(1, .a (.fn fa ca)), (2, .a (.v .nilFunc)), (7, .a (.v (.map (some b20)))), (21, .a (numsA nums)), (22, .a (.v (.int .i64 ((nums.map fun x => [AV.v (.int .u64 x)]).length)))), (23, .a (.v (.int .i64 (((0) : Int)))))], [⟨b20, true, .map (encM Value.string Choice.av (bestOf look (fun _ _ => false) (nums.take (0))))⟩]⟩ ⟨rfl, (Slots.cons rfl (by first | exact .refl _ | exact .nilOwn _ _ | exact .nilSl _ | exact .ownSl _ _ _ | exact SV.le.of_eq (by simp)) (Slots.cons rfl (by first | exact .refl _ | exact .nilOwn _ _ | exact .nilSl _ | exact .ownSl _ _ _ | exact SV.le.of_eq (by simp)) (Slots.cons rfl (by first | exact .refl _ | exact .nilOwn _ _ | exact .nilSl _ | exact .ownSl _ _ _ | exact SV.le.of_eq (by simp)) (Slots.cons rfl (by first | exact .refl _ | exact .nilOwn _ _ | exact .nilSl _ | exact .ownSl _ _ _ | exact SV.le.of_eq (by simp)) (Slots.cons rfl (by first | exact .refl _ | exact .nilOwn _ _ | exact .nilSl _ | exact .ownSl _ _ _ | exact SV.le.of_eq (by simp)) (Slots.cons rfl (by first | exact .refl _ | exact .nilOwn _ _ | exact .nilSl _ | exact .ownSl _ _ _ | exact SV.le.of_eq (by simp)) Slots.nil)))))), (by first | exact List.Sublist.refl _ | exact List.nil_sublist _ | exact .cons _ (.refl _) | exact .cons _ (.cons _ (.refl _)) | exact .cons _ (.cons _ (.cons _ (.refl _))) | exact .cons _ (.cons _ (.cons _ (.cons _ (.refl _)))) | exact .cons_cons _ (List.nil_sublist _))⟩ ⟨0, rfl, rfl, Nat.zero_le _⟩ ?_
  rintro nn0 _ ⟨k, rfl, rfl, hk⟩
  refine awp_seq ?_
  refine awp_region ?_
  refine r_cmp rfl rfl rfl rfl ?_
  refine awl_nil ?_
  refine x_then ?_
  refine awp_seq ?_
  refine awp_cond rfl (fun hc0 => ?_) (fun hc0 => ?_)
  ·
    have hlt : k < nums.length := by have := of_decide_eq_true hc0; simpa using this
    obtain ⟨x, hx⟩ := get_lt hlt
    have e : bestOf look (fun _ _ => false) (nums.take (k + 1)) = stepM look (fun _ _ => false) (bestOf look (fun _ _ => false) (nums.take k)) x := fold_take hx
    rw [stepM] at e
    refine awp_skip ?_
    refine x_then ?_
    refine awp_seq ?_
    refine awp_block ?_
    refine awp_seq ?_
    refine awp_region ?_
    refine r_index rfl rfl rfl T.sl23 T.sz30 (by omega) (get_map hx) rfl ?_
    first | (refine r_load1 rfl T.agg30 rfl ?_) | (refine r_load1b 0 rfl rfl rfl T.agg30 rfl ?_)
    refine r_assign rfl rfl ?_
    refine awl_nil ?_
    refine x_then ?_
    refine awp_seq ?_
    refine awp_seq ?_
    refine awp_region ?_
    refine r_move rfl rfl ?_
    first | (refine r_fn_eq rfl T.un28 rfl ?_) | (refine r_nofn_eq rfl T.un28 rfl ?_)
    refine awl_nil ?_
    refine x_then ?_
    refine awp_cond rfl (fun hc1 => ?_) (fun hc1 => ?_)
    ·
      exfalso; cases hc1
    ·
      refine awp_skip ?_
      refine x_then ?_
      refine awp_seq ?_
      refine awp_region ?_
      refine r_move rfl rfl ?_
      refine r_move rfl rfl ?_
      refine r_call0 rfl rfl (.cons (.ev rfl rfl) .nil) (ha x (List.mem_of_getElem? hx)) rfl hea rfl (fun r hr => ?_)
      obtain rfl := hr
      rcases hlk : look x with _ | fs
      ·
        rw [hlk] at e
        refine r_move rfl rfl ?_
        refine r_extract rfl rfl rfl ?_
        refine r_extract rfl rfl rfl ?_
        refine r_assign rfl rfl ?_
        refine r_assign rfl rfl ?_
        refine awl_nil ?_
        refine x_then ?_
        refine awp_seq ?_
        refine awp_seq ?_
        refine awp_region ?_
        refine r_move rfl rfl ?_
        refine r_not rfl rfl ?_
        refine awl_nil ?_
        refine x_then ?_
        refine awp_condT rfl ?_
        refine awp_exit ?_
        refine x_thenE ?_
        refine x_blockE ?_
        refine x_then ?_
        refine awp_region ?_
        refine r_ari _ rfl rfl rfl (wrap_id (by omega)) rfl ?_
        refine r_move rfl rfl ?_
        refine awl_nil ?_
        refine x_then ?_
        refine ⟨nums.length - (k + 1), ⟨102, [(1, .a (.fn fa ca)), (2, .a (.v .nilFunc)), (7, .a (.v (.map (some b20)))), (21, .a (numsA nums)), (22, .a (.v (.int .i64 ((nums.map fun x => [AV.v (.int .u64 x)]).length)))), (23, .a (.v (.int .i64 (((k + 1) : Int)))))], [⟨b20, true, .map (encM Value.string Choice.av (bestOf look (fun _ _ => false) (nums.take (k + 1))))⟩]⟩, ⟨rfl, (Slots.cons rfl (by first | exact .refl _ | exact .nilOwn _ _ | exact .nilSl _ | exact .ownSl _ _ _ | exact SV.le.of_eq (by simp)) (Slots.cons rfl (by first | exact .refl _ | exact .nilOwn _ _ | exact .nilSl _ | exact .ownSl _ _ _ | exact SV.le.of_eq (by simp)) (Slots.cons rfl (by first | exact .refl _ | exact .nilOwn _ _ | exact .nilSl _ | exact .ownSl _ _ _ | exact SV.le.of_eq (by simp)) (Slots.cons rfl (by first | exact .refl _ | exact .nilOwn _ _ | exact .nilSl _ | exact .ownSl _ _ _ | exact SV.le.of_eq (by simp)) (Slots.cons rfl (by first | exact .refl _ | exact .nilOwn _ _ | exact .nilSl _ | exact .ownSl _ _ _ | exact SV.le.of_eq (by simp)) (Slots.cons rfl (by first | exact .refl _ | exact .nilOwn _ _ | exact .nilSl _ | exact .ownSl _ _ _ | exact SV.le.of_eq (by simp)) Slots.nil)))))), (by rw [e]; first | exact List.Sublist.refl _ | exact List.nil_sublist _ | exact .cons _ (.refl _) | exact .cons _ (.cons _ (.refl _)) | exact .cons _ (.cons _ (.cons _ (.refl _))) | exact .cons _ (.cons _ (.cons _ (.cons _ (.refl _)))) | exact .cons_cons _ (List.nil_sublist _))⟩, (by omega), ⟨k + 1, rfl, rfl, (by have := (List.getElem?_eq_some_iff.1 hx).1; omega)⟩⟩
      ·
        rw [hlk] at e
        obtain ⟨hfl, hfd⟩ := hfs x (List.mem_of_getElem? hx) fs hlk
        refine r_move rfl rfl ?_
        refine r_extract rfl rfl rfl ?_
        refine r_extract rfl rfl rfl ?_
        refine r_assign rfl rfl ?_
        refine r_assign rfl rfl ?_
        refine awl_nil ?_
        refine x_then ?_
        refine awp_seq ?_
        refine awp_seq ?_
        refine awp_region ?_
        refine r_move rfl rfl ?_
        refine r_not rfl rfl ?_
        refine awl_nil ?_
        refine x_then ?_
        refine awp_condF rfl ?_
        refine awp_skip ?_
        refine x_then ?_
        refine awp_seq ?_
        refine awp_region ?_
        refine r_makeMap (ek := Value.string) (ev := boolA) [] rfl rfl (fun b37 => ?_)
        refine r_assign rfl rfl ?_
        refine awl_nil ?_
        refine x_then ?_
        refine awp_seq ?_
        refine awp_region ?_
        refine r_move rfl rfl ?_
        first | (refine r_lenS rfl rfl T.sl41 rfl ?_) | (refine r_lenNil rfl T.sl41 rfl ?_)
        refine r_move rfl rfl ?_
        refine awl_nil ?_
        refine x_then ?_
        refine awp_block ?_
        refine awp_loop (fun nn0 S => ∃ j : Nat, S = ⟨102, [(1, .a (.fn fa ca)), (2, .a (.v .nilFunc)), (7, .a (.v (.map (some b20)))), (21, .a (numsA nums)), (22, .a (.v (.int .i64 ((nums.map fun x => [AV.v (.int .u64 x)]).length)))), (23, .a (.v (.int .i64 ((k : Int))))), (9, .a (.v (.int .u64 x))), (12, .a (.v (.map (some b37)))), (38, .a (files fs)), (39, .a (.v (.int .i64 ((fs.map File.cs).length)))), (40, .a (.v (.int .i64 ((j : Int)))))], [⟨b37, true, .map (encM Value.string boolA ((fs.take j).foldl (stepF (fun _ _ => false) x) ([], (bestOf look (fun _ _ => false) (nums.take k)))).1)⟩, ⟨b20, true, .map (encM Value.string Choice.av ((fs.take j).foldl (stepF (fun _ _ => false) x) ([], (bestOf look (fun _ _ => false) (nums.take k)))).2)⟩]⟩ ∧ nn0 = fs.length - j ∧ (j ≤ fs.length)) (fs.length - (0)) ⟨102, [(1, .a (.fn fa ca)), (2, .a (.v .nilFunc)), (7, .a (.v (.map (some b20)))), (21, .a (numsA nums)), (22, .a (.v (.int .i64 ((nums.map fun x => [AV.v (.int .u64 x)]).length)))), (23, .a (.v (.int .i64 ((k : Int))))), (9, .a (.v (.int .u64 x))), (12, .a (.v (.map (some b37)))), (38, .a (files fs)), (39, .a (.v (.int .i64 ((fs.map File.cs).length)))), (40, .a (.v (.int .i64 (((0) : Int)))))], [⟨b37, true, .map (encM Value.string boolA ((fs.take (0)).foldl (stepF (fun _ _ => false) x) ([], (bestOf look (fun _ _ => false) (nums.take k)))).1)⟩, ⟨b20, true, .map (encM Value.string Choice.av ((fs.take (0)).foldl (stepF (fun _ _ => false) x) ([], (bestOf look (fun _ _ => false) (nums.take k)))).2)⟩]⟩ ⟨rfl, (Slots.cons rfl (by first | exact .refl _ | exact .nilOwn _ _ | exact .nilSl _ | exact .ownSl _ _ _ | exact SV.le.of_eq (by simp)) (Slots.cons rfl (by first | exact .refl _ | exact .nilOwn _ _ | exact .nilSl _ | exact .ownSl _ _ _ | exact SV.le.of_eq (by simp)) (Slots.cons rfl (by first | exact .refl _ | exact .nilOwn _ _ | exact .nilSl _ | exact .ownSl _ _ _ | exact SV.le.of_eq (by simp)) (Slots.cons rfl (by first | exact .refl _ | exact .nilOwn _ _ | exact .nilSl _ | exact .ownSl _ _ _ | exact SV.le.of_eq (by simp)) (Slots.cons rfl (by first | exact .refl _ | exact .nilOwn _ _ | exact .nilSl _ | exact .ownSl _ _ _ | exact SV.le.of_eq (by simp)) (Slots.cons rfl (by first | exact .refl _ | exact .nilOwn _ _ | exact .nilSl _ | exact .ownSl _ _ _ | exact SV.le.of_eq (by simp)) (Slots.cons rfl (by first | exact .refl _ | exact .nilOwn _ _ | exact .nilSl _ | exact .ownSl _ _ _ | exact SV.le.of_eq (by simp)) (Slots.cons rfl (by first | exact .refl _ | exact .nilOwn _ _ | exact .nilSl _ | exact .ownSl _ _ _ | exact SV.le.of_eq (by simp)) (Slots.cons rfl (by first | exact .refl _ | exact .nilOwn _ _ | exact .nilSl _ | exact .ownSl _ _ _ | exact SV.le.of_eq (by simp)) (Slots.cons rfl (by first | exact .refl _ | exact .nilOwn _ _ | exact .nilSl _ | exact .ownSl _ _ _ | exact SV.le.of_eq (by simp)) (Slots.cons rfl (by first | exact .refl _ | exact .nilOwn _ _ | exact .nilSl _ | exact .ownSl _ _ _ | exact SV.le.of_eq (by simp)) Slots.nil))))))))))), (by first | exact List.Sublist.refl _ | exact List.nil_sublist _ | exact .cons _ (.refl _) | exact .cons _ (.cons _ (.refl _)) | exact .cons _ (.cons _ (.cons _ (.refl _))) | exact .cons _ (.cons _ (.cons _ (.cons _ (.refl _)))) | exact .cons_cons _ (List.nil_sublist _))⟩ ⟨0, rfl, rfl, Nat.zero_le _⟩ ?_
        rintro nn0 _ ⟨j, rfl, rfl, hj⟩
        refine awp_seq ?_
        refine awp_region ?_
        refine r_cmp rfl rfl rfl rfl ?_
        refine awl_nil ?_
        refine x_then ?_
        refine awp_seq ?_
        refine awp_cond rfl (fun hc3 => ?_) (fun hc3 => ?_)
        ·
          have hltj : j < fs.length := by have := of_decide_eq_true hc3; simpa using this
          obtain ⟨y, hy⟩ := get_lt hltj
          have hyd := hfd y (List.mem_of_getElem? hy)
          have e2 : (fs.take (j + 1)).foldl (stepF (fun _ _ => false) x) ([], (bestOf look (fun _ _ => false) (nums.take k))) = stepF (fun _ _ => false) x ((fs.take j).foldl (stepF (fun _ _ => false) x) ([], (bestOf look (fun _ _ => false) (nums.take k)))) y := fold_take hy
          rw [stepF] at e2
          refine awp_skip ?_
          refine x_then ?_
          refine awp_seq ?_
          refine awp_block ?_
          refine awp_seq ?_
          refine awp_region ?_
          refine r_index rfl rfl rfl T.sl41 T.sz50 (by omega) (get_map hy) rfl ?_
          first | (refine r_loadA rfl T.agg50 T.sz50 rfl rfl ?_) | (refine r_loadAb 0 rfl rfl T.agg50 T.sz50 rfl rfl ?_) | (refine r_loadAb 1 rfl rfl T.agg50 T.sz50 rfl rfl ?_)
          refine r_alloc T.zero50 rfl (fun b14 => ?_)
          first | (refine r_store 0 rfl rfl rfl T.sz50 rfl rfl rfl ?_) | (refine r_store 1 rfl rfl rfl T.sz50 rfl rfl rfl ?_) | (refine r_store 2 rfl rfl rfl T.sz50 rfl rfl rfl ?_)
          refine awl_nil ?_
          refine x_then ?_
          refine awp_seq ?_
          refine awp_seq ?_
          refine awp_region ?_
          refine r_move rfl rfl ?_
          first | (refine r_fieldcp rfl T.f50_0 T.sz9 rfl ?_) | (refine r_fieldb rfl T.f50_0 T.sz9 rfl ?_)
          first | (refine r_load1 rfl T.agg9 rfl ?_) | (refine r_load1b 0 rfl rfl rfl T.agg9 rfl ?_) | (refine r_load1b 1 rfl rfl rfl T.agg9 rfl ?_) | (refine r_load1b 2 rfl rfl rfl T.agg9 rfl ?_)
          first | (refine r_lookup 0 (keyEnc_string T.un9) (ev := boolA) false rfl rfl rfl T.map53 T.zav4 rfl ?_) | (refine r_lookup 1 (keyEnc_string T.un9) (ev := boolA) false rfl rfl rfl T.map53 T.zav4 rfl ?_) | (refine r_lookup 2 (keyEnc_string T.un9) (ev := boolA) false rfl rfl rfl T.map53 T.zav4 rfl ?_)
          refine awl_nil ?_
          refine x_then ?_
          refine awp_cond rfl (fun hc4 => ?_) (fun hc4 => ?_)
          ·
            rw [hc4] at e2
            refine awp_exit ?_
            refine x_thenE ?_
            refine x_blockE ?_
            refine x_then ?_
            refine awp_region ?_
            refine r_ari _ rfl rfl rfl (wrap_id (by omega)) rfl ?_
            refine r_move rfl rfl ?_
            refine awl_nil ?_
            refine x_then ?_
            refine ⟨fs.length - (j + 1), ⟨102, [(1, .a (.fn fa ca)), (2, .a (.v .nilFunc)), (7, .a (.v (.map (some b20)))), (21, .a (numsA nums)), (22, .a (.v (.int .i64 ((nums.map fun x => [AV.v (.int .u64 x)]).length)))), (23, .a (.v (.int .i64 ((k : Int))))), (9, .a (.v (.int .u64 x))), (12, .a (.v (.map (some b37)))), (38, .a (files fs)), (39, .a (.v (.int .i64 ((fs.map File.cs).length)))), (40, .a (.v (.int .i64 (((j + 1) : Int)))))], [⟨b37, true, .map (encM Value.string boolA ((fs.take (j + 1)).foldl (stepF (fun _ _ => false) x) ([], (bestOf look (fun _ _ => false) (nums.take k)))).1)⟩, ⟨b20, true, .map (encM Value.string Choice.av ((fs.take (j + 1)).foldl (stepF (fun _ _ => false) x) ([], (bestOf look (fun _ _ => false) (nums.take k)))).2)⟩]⟩, ⟨rfl, (Slots.cons rfl (by first | exact .refl _ | exact .nilOwn _ _ | exact .nilSl _ | exact .ownSl _ _ _ | exact SV.le.of_eq (by simp)) (Slots.cons rfl (by first | exact .refl _ | exact .nilOwn _ _ | exact .nilSl _ | exact .ownSl _ _ _ | exact SV.le.of_eq (by simp)) (Slots.cons rfl (by first | exact .refl _ | exact .nilOwn _ _ | exact .nilSl _ | exact .ownSl _ _ _ | exact SV.le.of_eq (by simp)) (Slots.cons rfl (by first | exact .refl _ | exact .nilOwn _ _ | exact .nilSl _ | exact .ownSl _ _ _ | exact SV.le.of_eq (by simp)) (Slots.cons rfl (by first | exact .refl _ | exact .nilOwn _ _ | exact .nilSl _ | exact .ownSl _ _ _ | exact SV.le.of_eq (by simp)) (Slots.cons rfl (by first | exact .refl _ | exact .nilOwn _ _ | exact .nilSl _ | exact .ownSl _ _ _ | exact SV.le.of_eq (by simp)) (Slots.cons rfl (by first | exact .refl _ | exact .nilOwn _ _ | exact .nilSl _ | exact .ownSl _ _ _ | exact SV.le.of_eq (by simp)) (Slots.cons rfl (by first | exact .refl _ | exact .nilOwn _ _ | exact .nilSl _ | exact .ownSl _ _ _ | exact SV.le.of_eq (by simp)) (Slots.cons rfl (by first | exact .refl _ | exact .nilOwn _ _ | exact .nilSl _ | exact .ownSl _ _ _ | exact SV.le.of_eq (by simp)) (Slots.cons rfl (by first | exact .refl _ | exact .nilOwn _ _ | exact .nilSl _ | exact .ownSl _ _ _ | exact SV.le.of_eq (by simp)) (Slots.cons rfl (by first | exact .refl _ | exact .nilOwn _ _ | exact .nilSl _ | exact .ownSl _ _ _ | exact SV.le.of_eq (by simp)) Slots.nil))))))))))), (by rw [e2]; first | exact List.Sublist.refl _ | exact List.nil_sublist _ | exact .cons _ (.refl _) | exact .cons _ (.cons _ (.refl _)) | exact .cons _ (.cons _ (.cons _ (.refl _))) | exact .cons _ (.cons _ (.cons _ (.cons _ (.refl _)))) | exact .cons_cons _ (List.nil_sublist _))⟩, (by omega), ⟨j + 1, rfl, rfl, (by have := (List.getElem?_eq_some_iff.1 hy).1; omega)⟩⟩
          ·
            rw [hc4] at e2
            refine awp_skip ?_
            refine x_then ?_
            refine awp_seq ?_
            refine awp_region ?_
            refine r_move rfl rfl ?_
            first | (refine r_fieldcp rfl T.f50_0 T.sz9 rfl ?_) | (refine r_fieldb rfl T.f50_0 T.sz9 rfl ?_)
            first | (refine r_load1 rfl T.agg9 rfl ?_) | (refine r_load1b 0 rfl rfl rfl T.agg9 rfl ?_) | (refine r_load1b 1 rfl rfl rfl T.agg9 rfl ?_) | (refine r_load1b 2 rfl rfl rfl T.agg9 rfl ?_)
            first | (refine r_mapUpdate 0 (keyEnc_string T.un9) (ev := boolA) true rfl rfl rfl rfl rfl T.map53 ?_) | (refine r_mapUpdate 1 (keyEnc_string T.un9) (ev := boolA) true rfl rfl rfl rfl rfl T.map53 ?_) | (refine r_mapUpdate 2 (keyEnc_string T.un9) (ev := boolA) true rfl rfl rfl rfl rfl T.map53 ?_)
            refine awl_nil ?_
            refine x_then ?_
            refine awp_seq ?_
            refine awp_region ?_
            refine r_move rfl rfl ?_
            first | (refine r_fieldcp rfl T.f50_0 T.sz9 rfl ?_) | (refine r_fieldb rfl T.f50_0 T.sz9 rfl ?_)
            first | (refine r_load1 rfl T.agg9 rfl ?_) | (refine r_load1b 0 rfl rfl rfl T.agg9 rfl ?_) | (refine r_load1b 1 rfl rfl rfl T.agg9 rfl ?_) | (refine r_load1b 2 rfl rfl rfl T.agg9 rfl ?_)
            first | (refine r_lookupOk 0 (keyEnc_string T.un9) (ev := Choice.av) Choice.zero rfl rfl rfl T.map71 T.zav33 rfl ?_) | (refine r_lookupOk 1 (keyEnc_string T.un9) (ev := Choice.av) Choice.zero rfl rfl rfl T.map71 T.zav33 rfl ?_) | (refine r_lookupOk 2 (keyEnc_string T.un9) (ev := Choice.av) Choice.zero rfl rfl rfl T.map71 T.zav33 rfl ?_)
            refine r_move rfl rfl ?_
            refine r_extract rfl rfl rfl ?_
            refine r_extract rfl rfl rfl ?_
            refine r_alloc T.zero33 rfl (fun b15 => ?_)
            first | (refine r_store 0 rfl rfl rfl T.sz33 rfl rfl rfl ?_) | (refine r_store 1 rfl rfl rfl T.sz33 rfl rfl rfl ?_) | (refine r_store 2 rfl rfl rfl T.sz33 rfl rfl rfl ?_) | (refine r_store 3 rfl rfl rfl T.sz33 rfl rfl rfl ?_)
            refine r_assign rfl rfl ?_
            refine awl_nil ?_
            refine x_then ?_
            refine awp_cut (fun S => S = ⟨102, [(1, .a (.fn fa ca)), (2, .a (.v .nilFunc)), (7, .a (.v (.map (some b20)))), (21, .a (numsA nums)), (22, .a (.v (.int .i64 ((nums.map fun x => [AV.v (.int .u64 x)]).length)))), (23, .a (.v (.int .i64 ((k : Int))))), (9, .a (.v (.int .u64 x))), (12, .a (.v (.map (some b37)))), (38, .a (files fs)), (39, .a (.v (.int .i64 ((fs.map File.cs).length)))), (40, .a (.v (.int .i64 ((j : Int))))), (14, .a (.v (.pointer (some ⟨b14, 0, none⟩)))), (15, .a (.v (.pointer (some ⟨b15, 0, none⟩))))], [⟨b15, true, .box (Choice.cs ((mget ((fs.take j).foldl (stepF (fun _ _ => false) x) ([], (bestOf look (fun _ _ => false) (nums.take k)))).2 y.name).getD ⟨y.name, 0, false, []⟩))⟩, ⟨b14, true, .box (File.cs y)⟩, ⟨b37, true, .map (encM Value.string boolA (mset ((fs.take j).foldl (stepF (fun _ _ => false) x) ([], (bestOf look (fun _ _ => false) (nums.take k)))).1 y.name true))⟩, ⟨b20, true, .map (encM Value.string Choice.av ((fs.take j).foldl (stepF (fun _ _ => false) x) ([], (bestOf look (fun _ _ => false) (nums.take k)))).2)⟩]⟩) ?_ ?_
            ·
              refine awp_seq ?_
              refine awp_region ?_
              refine r_move rfl rfl ?_
              refine r_not rfl rfl ?_
              refine awl_nil ?_
              refine x_then ?_
              refine awp_cond rfl (fun hc5 => ?_) (fun hc5 => ?_)
              ·
                have hn : mget ((fs.take j).foldl (stepF (fun _ _ => false) x) ([], (bestOf look (fun _ _ => false) (nums.take k)))).2 y.name = none := by cases h : mget ((fs.take j).foldl (stepF (fun _ _ => false) x) ([], (bestOf look (fun _ _ => false) (nums.take k)))).2 y.name with | none => rfl | some c => rw [h] at hc5; cases hc5
                have hcc : ((mget ((fs.take j).foldl (stepF (fun _ _ => false) x) ([], (bestOf look (fun _ _ => false) (nums.take k)))).2 y.name).getD ⟨y.name, 0, false, []⟩) = ⟨y.name, 0, false, []⟩ := by rw [hn]; rfl
                refine awp_region ?_
                first | (refine r_fieldcp rfl T.f50_0 T.sz9 rfl ?_) | (refine r_fieldb rfl T.f50_0 T.sz9 rfl ?_)
                first | (refine r_load1 rfl T.agg9 rfl ?_) | (refine r_load1b 0 rfl rfl rfl T.agg9 rfl ?_) | (refine r_load1b 1 rfl rfl rfl T.agg9 rfl ?_) | (refine r_load1b 2 rfl rfl rfl T.agg9 rfl ?_) | (refine r_load1b 3 rfl rfl rfl T.agg9 rfl ?_)
                refine r_build (parts := [(0, .tmp 61)]) rfl T.pl33 T.zero33 rfl rfl rfl ?_
                first | (refine r_store 0 rfl rfl rfl T.sz33 rfl rfl rfl ?_) | (refine r_store 1 rfl rfl rfl T.sz33 rfl rfl rfl ?_) | (refine r_store 2 rfl rfl rfl T.sz33 rfl rfl rfl ?_) | (refine r_store 3 rfl rfl rfl T.sz33 rfl rfl rfl ?_)
                refine awl_nil ?_
                refine x_then ?_
                refine ⟨⟨102, [(1, .a (.fn fa ca)), (2, .a (.v .nilFunc)), (7, .a (.v (.map (some b20)))), (21, .a (numsA nums)), (22, .a (.v (.int .i64 ((nums.map fun x => [AV.v (.int .u64 x)]).length)))), (23, .a (.v (.int .i64 ((k : Int))))), (9, .a (.v (.int .u64 x))), (12, .a (.v (.map (some b37)))), (38, .a (files fs)), (39, .a (.v (.int .i64 ((fs.map File.cs).length)))), (40, .a (.v (.int .i64 ((j : Int))))), (14, .a (.v (.pointer (some ⟨b14, 0, none⟩)))), (15, .a (.v (.pointer (some ⟨b15, 0, none⟩))))], [⟨b15, true, .box (Choice.cs ((mget ((fs.take j).foldl (stepF (fun _ _ => false) x) ([], (bestOf look (fun _ _ => false) (nums.take k)))).2 y.name).getD ⟨y.name, 0, false, []⟩))⟩, ⟨b14, true, .box (File.cs y)⟩, ⟨b37, true, .map (encM Value.string boolA (mset ((fs.take j).foldl (stepF (fun _ _ => false) x) ([], (bestOf look (fun _ _ => false) (nums.take k)))).1 y.name true))⟩, ⟨b20, true, .map (encM Value.string Choice.av ((fs.take j).foldl (stepF (fun _ _ => false) x) ([], (bestOf look (fun _ _ => false) (nums.take k)))).2)⟩]⟩, ⟨rfl, (Slots.cons rfl (by first | exact .refl _ | exact .nilOwn _ _ | exact .nilSl _ | exact .ownSl _ _ _ | exact SV.le.of_eq (by simp)) (Slots.cons rfl (by first | exact .refl _ | exact .nilOwn _ _ | exact .nilSl _ | exact .ownSl _ _ _ | exact SV.le.of_eq (by simp)) (Slots.cons rfl (by first | exact .refl _ | exact .nilOwn _ _ | exact .nilSl _ | exact .ownSl _ _ _ | exact SV.le.of_eq (by simp)) (Slots.cons rfl (by first | exact .refl _ | exact .nilOwn _ _ | exact .nilSl _ | exact .ownSl _ _ _ | exact SV.le.of_eq (by simp)) (Slots.cons rfl (by first | exact .refl _ | exact .nilOwn _ _ | exact .nilSl _ | exact .ownSl _ _ _ | exact SV.le.of_eq (by simp)) (Slots.cons rfl (by first | exact .refl _ | exact .nilOwn _ _ | exact .nilSl _ | exact .ownSl _ _ _ | exact SV.le.of_eq (by simp)) (Slots.cons rfl (by first | exact .refl _ | exact .nilOwn _ _ | exact .nilSl _ | exact .ownSl _ _ _ | exact SV.le.of_eq (by simp)) (Slots.cons rfl (by first | exact .refl _ | exact .nilOwn _ _ | exact .nilSl _ | exact .ownSl _ _ _ | exact SV.le.of_eq (by simp)) (Slots.cons rfl (by first | exact .refl _ | exact .nilOwn _ _ | exact .nilSl _ | exact .ownSl _ _ _ | exact SV.le.of_eq (by simp)) (Slots.cons rfl (by first | exact .refl _ | exact .nilOwn _ _ | exact .nilSl _ | exact .ownSl _ _ _ | exact SV.le.of_eq (by simp)) (Slots.cons rfl (by first | exact .refl _ | exact .nilOwn _ _ | exact .nilSl _ | exact .ownSl _ _ _ | exact SV.le.of_eq (by simp)) (Slots.cons rfl (by first | exact .refl _ | exact .nilOwn _ _ | exact .nilSl _ | exact .ownSl _ _ _ | exact SV.le.of_eq (by simp)) (Slots.cons rfl (by first | exact .refl _ | exact .nilOwn _ _ | exact .nilSl _ | exact .ownSl _ _ _ | exact SV.le.of_eq (by simp)) Slots.nil))))))))))))), (by rw [hcc]; first | exact List.Sublist.refl _ | exact List.nil_sublist _ | exact .cons _ (.refl _) | exact .cons _ (.cons _ (.refl _)) | exact .cons _ (.cons _ (.cons _ (.refl _))) | exact .cons _ (.cons _ (.cons _ (.cons _ (.refl _)))) | exact .cons_cons _ (List.nil_sublist _))⟩, rfl⟩
              ·
                have hcc : ((mget ((fs.take j).foldl (stepF (fun _ _ => false) x) ([], (bestOf look (fun _ _ => false) (nums.take k)))).2 y.name).getD ⟨y.name, 0, false, []⟩) = (mget ((fs.take j).foldl (stepF (fun _ _ => false) x) ([], (bestOf look (fun _ _ => false) (nums.take k)))).2 y.name).getD .zero := by cases h : mget ((fs.take j).foldl (stepF (fun _ _ => false) x) ([], (bestOf look (fun _ _ => false) (nums.take k)))).2 y.name with | none => rw [h] at hc5; cases hc5 | some c => rfl
                refine awp_skip ?_
                refine x_then ?_
                refine ⟨⟨102, [(1, .a (.fn fa ca)), (2, .a (.v .nilFunc)), (7, .a (.v (.map (some b20)))), (21, .a (numsA nums)), (22, .a (.v (.int .i64 ((nums.map fun x => [AV.v (.int .u64 x)]).length)))), (23, .a (.v (.int .i64 ((k : Int))))), (9, .a (.v (.int .u64 x))), (12, .a (.v (.map (some b37)))), (38, .a (files fs)), (39, .a (.v (.int .i64 ((fs.map File.cs).length)))), (40, .a (.v (.int .i64 ((j : Int))))), (14, .a (.v (.pointer (some ⟨b14, 0, none⟩)))), (15, .a (.v (.pointer (some ⟨b15, 0, none⟩))))], [⟨b15, true, .box (Choice.cs ((mget ((fs.take j).foldl (stepF (fun _ _ => false) x) ([], (bestOf look (fun _ _ => false) (nums.take k)))).2 y.name).getD ⟨y.name, 0, false, []⟩))⟩, ⟨b14, true, .box (File.cs y)⟩, ⟨b37, true, .map (encM Value.string boolA (mset ((fs.take j).foldl (stepF (fun _ _ => false) x) ([], (bestOf look (fun _ _ => false) (nums.take k)))).1 y.name true))⟩, ⟨b20, true, .map (encM Value.string Choice.av ((fs.take j).foldl (stepF (fun _ _ => false) x) ([], (bestOf look (fun _ _ => false) (nums.take k)))).2)⟩]⟩, ⟨rfl, (Slots.cons rfl (by first | exact .refl _ | exact .nilOwn _ _ | exact .nilSl _ | exact .ownSl _ _ _ | exact SV.le.of_eq (by simp)) (Slots.cons rfl (by first | exact .refl _ | exact .nilOwn _ _ | exact .nilSl _ | exact .ownSl _ _ _ | exact SV.le.of_eq (by simp)) (Slots.cons rfl (by first | exact .refl _ | exact .nilOwn _ _ | exact .nilSl _ | exact .ownSl _ _ _ | exact SV.le.of_eq (by simp)) (Slots.cons rfl (by first | exact .refl _ | exact .nilOwn _ _ | exact .nilSl _ | exact .ownSl _ _ _ | exact SV.le.of_eq (by simp)) (Slots.cons rfl (by first | exact .refl _ | exact .nilOwn _ _ | exact .nilSl _ | exact .ownSl _ _ _ | exact SV.le.of_eq (by simp)) (Slots.cons rfl (by first | exact .refl _ | exact .nilOwn _ _ | exact .nilSl _ | exact .ownSl _ _ _ | exact SV.le.of_eq (by simp)) (Slots.cons rfl (by first | exact .refl _ | exact .nilOwn _ _ | exact .nilSl _ | exact .ownSl _ _ _ | exact SV.le.of_eq (by simp)) (Slots.cons rfl (by first | exact .refl _ | exact .nilOwn _ _ | exact .nilSl _ | exact .ownSl _ _ _ | exact SV.le.of_eq (by simp)) (Slots.cons rfl (by first | exact .refl _ | exact .nilOwn _ _ | exact .nilSl _ | exact .ownSl _ _ _ | exact SV.le.of_eq (by simp)) (Slots.cons rfl (by first | exact .refl _ | exact .nilOwn _ _ | exact .nilSl _ | exact .ownSl _ _ _ | exact SV.le.of_eq (by simp)) (Slots.cons rfl (by first | exact .refl _ | exact .nilOwn _ _ | exact .nilSl _ | exact .ownSl _ _ _ | exact SV.le.of_eq (by simp)) (Slots.cons rfl (by first | exact .refl _ | exact .nilOwn _ _ | exact .nilSl _ | exact .ownSl _ _ _ | exact SV.le.of_eq (by simp)) (Slots.cons rfl (by first | exact .refl _ | exact .nilOwn _ _ | exact .nilSl _ | exact .ownSl _ _ _ | exact SV.le.of_eq (by simp)) Slots.nil))))))))))))), (by rw [hcc]; first | exact List.Sublist.refl _ | exact List.nil_sublist _ | exact .cons _ (.refl _) | exact .cons _ (.cons _ (.refl _)) | exact .cons _ (.cons _ (.cons _ (.refl _))) | exact .cons _ (.cons _ (.cons _ (.cons _ (.refl _)))) | exact .cons_cons _ (List.nil_sublist _))⟩, rfl⟩
            ·
              rintro _ ⟨rfl⟩
              refine awp_cut (fun S => S = ⟨102, [(1, .a (.fn fa ca)), (2, .a (.v .nilFunc)), (7, .a (.v (.map (some b20)))), (21, .a (numsA nums)), (22, .a (.v (.int .i64 ((nums.map fun x => [AV.v (.int .u64 x)]).length)))), (23, .a (.v (.int .i64 ((k : Int))))), (9, .a (.v (.int .u64 x))), (12, .a (.v (.map (some b37)))), (38, .a (files fs)), (39, .a (.v (.int .i64 ((fs.map File.cs).length)))), (40, .a (.v (.int .i64 ((j : Int))))), (14, .a (.v (.pointer (some ⟨b14, 0, none⟩)))), (15, .a (.v (.pointer (some ⟨b15, 0, none⟩))))], [⟨b15, true, .box (Choice.cs (cond ((fun _ _ => false) y.name y.data) ⟨y.name, x, true, y.data⟩ ((mget ((fs.take j).foldl (stepF (fun _ _ => false) x) ([], (bestOf look (fun _ _ => false) (nums.take k)))).2 y.name).getD ⟨y.name, 0, false, []⟩)))⟩, ⟨b14, true, .box (File.cs y)⟩, ⟨b37, true, .map (encM Value.string boolA (mset ((fs.take j).foldl (stepF (fun _ _ => false) x) ([], (bestOf look (fun _ _ => false) (nums.take k)))).1 y.name true))⟩, ⟨b20, true, .map (encM Value.string Choice.av ((fs.take j).foldl (stepF (fun _ _ => false) x) ([], (bestOf look (fun _ _ => false) (nums.take k)))).2)⟩]⟩) ?_ ?_
              ·
                refine awp_seq ?_
                refine awp_drawS [63, 64, 65, 66, 67, 68, 69, 70, 71] [_, _, _, _, _, _, _, _, _] [] [] T.mixed rfl rfl rfl ⟨⟨⟨⟨⟨⟨⟨⟨⟨trivial
                  , ⟨_, rfl, fun sl hd hr ho => by
                      refine r_move (hr 2 _ rfl rfl rfl) rfl ?_
                      exact awl_nil ⟨rfl, post_put⟩⟩⟩
                  , ⟨_, rfl, fun sl hd hr ho => by
                      first | (refine r_fn_ne (hd 0 _ rfl rfl rfl) T.un37 rfl ?_) | (refine r_nofn_ne (hd 0 _ rfl rfl rfl) T.un37 rfl ?_)
                      exact awl_nil ⟨rfl, post_put⟩⟩⟩
                  , ⟨_, rfl, fun sl hd hr ho => by
                      refine r_move (hd 1 _ rfl rfl rfl) rfl ?_
                      exact awl_nil ⟨rfl, post_put⟩⟩⟩
                  , ⟨_, rfl, fun sl hd hr ho => by
                      refine g_skip rfl (hd 2 _ rfl rfl rfl) rfl rfl ?_
                      exact awl_nil ⟨rfl, post_put⟩⟩⟩
                  , ⟨_, rfl, fun sl hd hr ho => by
                      refine g_skip rfl (hd 2 _ rfl rfl rfl) rfl rfl ?_
                      exact awl_nil ⟨rfl, post_put⟩⟩⟩
                  , ⟨_, rfl, fun sl hd hr ho => by
                      refine g_skip rfl (hd 2 _ rfl rfl rfl) rfl rfl ?_
                      exact awl_nil ⟨rfl, post_put⟩⟩⟩
                  , ⟨_, rfl, fun sl hd hr ho => by
                      refine g_skip rfl (hd 2 _ rfl rfl rfl) rfl rfl ?_
                      exact awl_nil ⟨rfl, post_put⟩⟩⟩
                  , ⟨_, rfl, fun sl hd hr ho => by
                      refine g_skip rfl (hd 2 _ rfl rfl rfl) rfl rfl ?_
                      exact awl_nil ⟨rfl, post_put⟩⟩⟩
                  , ⟨_, rfl, fun sl hd hr ho => by
                      refine g_skip rfl (hd 2 _ rfl rfl rfl) rfl rfl ?_
                      exact awl_nil ⟨rfl, post_put⟩⟩⟩
                  (by rfl) ?_
                refine g_skip rfl rfl rfl rfl ?_
                refine r_pickF rfl rfl rfl rfl ?_
                refine awl_nil ?_
                refine x_then ?_
                refine awp_condF rfl ?_
                have hc7 : (cond ((fun _ _ => false) y.name y.data) ⟨y.name, x, true, y.data⟩ ((mget ((fs.take j).foldl (stepF (fun _ _ => false) x) ([], (bestOf look (fun _ _ => false) (nums.take k)))).2 y.name).getD ⟨y.name, 0, false, []⟩) : Choice) = ((mget ((fs.take j).foldl (stepF (fun _ _ => false) x) ([], (bestOf look (fun _ _ => false) (nums.take k)))).2 y.name).getD ⟨y.name, 0, false, []⟩) := rfl
                refine awp_skip ?_
                refine x_then ?_
                refine ⟨⟨102, [(1, .a (.fn fa ca)), (2, .a (.v .nilFunc)), (7, .a (.v (.map (some b20)))), (21, .a (numsA nums)), (22, .a (.v (.int .i64 ((nums.map fun x => [AV.v (.int .u64 x)]).length)))), (23, .a (.v (.int .i64 ((k : Int))))), (9, .a (.v (.int .u64 x))), (12, .a (.v (.map (some b37)))), (38, .a (files fs)), (39, .a (.v (.int .i64 ((fs.map File.cs).length)))), (40, .a (.v (.int .i64 ((j : Int))))), (14, .a (.v (.pointer (some ⟨b14, 0, none⟩)))), (15, .a (.v (.pointer (some ⟨b15, 0, none⟩))))], [⟨b15, true, .box (Choice.cs (cond ((fun _ _ => false) y.name y.data) ⟨y.name, x, true, y.data⟩ ((mget ((fs.take j).foldl (stepF (fun _ _ => false) x) ([], (bestOf look (fun _ _ => false) (nums.take k)))).2 y.name).getD ⟨y.name, 0, false, []⟩)))⟩, ⟨b14, true, .box (File.cs y)⟩, ⟨b37, true, .map (encM Value.string boolA (mset ((fs.take j).foldl (stepF (fun _ _ => false) x) ([], (bestOf look (fun _ _ => false) (nums.take k)))).1 y.name true))⟩, ⟨b20, true, .map (encM Value.string Choice.av ((fs.take j).foldl (stepF (fun _ _ => false) x) ([], (bestOf look (fun _ _ => false) (nums.take k)))).2)⟩]⟩, ⟨rfl, (Slots.cons rfl (by first | exact .refl _ | exact .nilOwn _ _ | exact .nilSl _ | exact .ownSl _ _ _ | exact SV.le.of_eq (by simp)) (Slots.cons rfl (by first | exact .refl _ | exact .nilOwn _ _ | exact .nilSl _ | exact .ownSl _ _ _ | exact SV.le.of_eq (by simp)) (Slots.cons rfl (by first | exact .refl _ | exact .nilOwn _ _ | exact .nilSl _ | exact .ownSl _ _ _ | exact SV.le.of_eq (by simp)) (Slots.cons rfl (by first | exact .refl _ | exact .nilOwn _ _ | exact .nilSl _ | exact .ownSl _ _ _ | exact SV.le.of_eq (by simp)) (Slots.cons rfl (by first | exact .refl _ | exact .nilOwn _ _ | exact .nilSl _ | exact .ownSl _ _ _ | exact SV.le.of_eq (by simp)) (Slots.cons rfl (by first | exact .refl _ | exact .nilOwn _ _ | exact .nilSl _ | exact .ownSl _ _ _ | exact SV.le.of_eq (by simp)) (Slots.cons rfl (by first | exact .refl _ | exact .nilOwn _ _ | exact .nilSl _ | exact .ownSl _ _ _ | exact SV.le.of_eq (by simp)) (Slots.cons rfl (by first | exact .refl _ | exact .nilOwn _ _ | exact .nilSl _ | exact .ownSl _ _ _ | exact SV.le.of_eq (by simp)) (Slots.cons rfl (by first | exact .refl _ | exact .nilOwn _ _ | exact .nilSl _ | exact .ownSl _ _ _ | exact SV.le.of_eq (by simp)) (Slots.cons rfl (by first | exact .refl _ | exact .nilOwn _ _ | exact .nilSl _ | exact .ownSl _ _ _ | exact SV.le.of_eq (by simp)) (Slots.cons rfl (by first | exact .refl _ | exact .nilOwn _ _ | exact .nilSl _ | exact .ownSl _ _ _ | exact SV.le.of_eq (by simp)) (Slots.cons rfl (by first | exact .refl _ | exact .nilOwn _ _ | exact .nilSl _ | exact .ownSl _ _ _ | exact SV.le.of_eq (by simp)) (Slots.cons rfl (by first | exact .refl _ | exact .nilOwn _ _ | exact .nilSl _ | exact .ownSl _ _ _ | exact SV.le.of_eq (by simp)) Slots.nil))))))))))))), (by rw [hc7]; first | exact List.Sublist.refl _ | exact List.nil_sublist _ | exact .cons _ (.refl _) | exact .cons _ (.cons _ (.refl _)) | exact .cons _ (.cons _ (.cons _ (.refl _))) | exact .cons _ (.cons _ (.cons _ (.cons _ (.refl _)))) | exact .cons_cons _ (List.nil_sublist _))⟩, rfl⟩
              ·
                rintro _ ⟨rfl⟩
                refine awp_region ?_
                refine r_move rfl rfl ?_
                first | (refine r_fieldcp rfl T.f50_0 T.sz9 rfl ?_) | (refine r_fieldb rfl T.f50_0 T.sz9 rfl ?_)
                first | (refine r_load1 rfl T.agg9 rfl ?_) | (refine r_load1b 0 rfl rfl rfl T.agg9 rfl ?_) | (refine r_load1b 1 rfl rfl rfl T.agg9 rfl ?_) | (refine r_load1b 2 rfl rfl rfl T.agg9 rfl ?_) | (refine r_load1b 3 rfl rfl rfl T.agg9 rfl ?_)
                first | (refine r_loadA rfl T.agg33 T.sz33 rfl rfl ?_) | (refine r_loadAb 0 rfl rfl T.agg33 T.sz33 rfl rfl ?_) | (refine r_loadAb 1 rfl rfl T.agg33 T.sz33 rfl rfl ?_) | (refine r_loadAb 2 rfl rfl T.agg33 T.sz33 rfl rfl ?_) | (refine r_loadAb 3 rfl rfl T.agg33 T.sz33 rfl rfl ?_)
                first | (refine r_mapUpdate 0 (keyEnc_string T.un9) (ev := Choice.av) ((cond ((fun _ _ => false) y.name y.data) ⟨y.name, x, true, y.data⟩ ((mget ((fs.take j).foldl (stepF (fun _ _ => false) x) ([], (bestOf look (fun _ _ => false) (nums.take k)))).2 y.name).getD ⟨y.name, 0, false, []⟩)) : Choice) rfl rfl rfl rfl rfl T.map71 ?_) | (refine r_mapUpdate 1 (keyEnc_string T.un9) (ev := Choice.av) ((cond ((fun _ _ => false) y.name y.data) ⟨y.name, x, true, y.data⟩ ((mget ((fs.take j).foldl (stepF (fun _ _ => false) x) ([], (bestOf look (fun _ _ => false) (nums.take k)))).2 y.name).getD ⟨y.name, 0, false, []⟩)) : Choice) rfl rfl rfl rfl rfl T.map71 ?_) | (refine r_mapUpdate 2 (keyEnc_string T.un9) (ev := Choice.av) ((cond ((fun _ _ => false) y.name y.data) ⟨y.name, x, true, y.data⟩ ((mget ((fs.take j).foldl (stepF (fun _ _ => false) x) ([], (bestOf look (fun _ _ => false) (nums.take k)))).2 y.name).getD ⟨y.name, 0, false, []⟩)) : Choice) rfl rfl rfl rfl rfl T.map71 ?_) | (refine r_mapUpdate 3 (keyEnc_string T.un9) (ev := Choice.av) ((cond ((fun _ _ => false) y.name y.data) ⟨y.name, x, true, y.data⟩ ((mget ((fs.take j).foldl (stepF (fun _ _ => false) x) ([], (bestOf look (fun _ _ => false) (nums.take k)))).2 y.name).getD ⟨y.name, 0, false, []⟩)) : Choice) rfl rfl rfl rfl rfl T.map71 ?_)
                refine awl_nil ?_
                refine x_block ?_
                refine x_then ?_
                refine awp_region ?_
                refine r_ari _ rfl rfl rfl (wrap_id (by omega)) rfl ?_
                refine r_move rfl rfl ?_
                refine awl_nil ?_
                refine x_then ?_
                refine ⟨fs.length - (j + 1), ⟨102, [(1, .a (.fn fa ca)), (2, .a (.v .nilFunc)), (7, .a (.v (.map (some b20)))), (21, .a (numsA nums)), (22, .a (.v (.int .i64 ((nums.map fun x => [AV.v (.int .u64 x)]).length)))), (23, .a (.v (.int .i64 ((k : Int))))), (9, .a (.v (.int .u64 x))), (12, .a (.v (.map (some b37)))), (38, .a (files fs)), (39, .a (.v (.int .i64 ((fs.map File.cs).length)))), (40, .a (.v (.int .i64 (((j + 1) : Int)))))], [⟨b37, true, .map (encM Value.string boolA ((fs.take (j + 1)).foldl (stepF (fun _ _ => false) x) ([], (bestOf look (fun _ _ => false) (nums.take k)))).1)⟩, ⟨b20, true, .map (encM Value.string Choice.av ((fs.take (j + 1)).foldl (stepF (fun _ _ => false) x) ([], (bestOf look (fun _ _ => false) (nums.take k)))).2)⟩]⟩, ⟨rfl, (Slots.cons rfl (by first | exact .refl _ | exact .nilOwn _ _ | exact .nilSl _ | exact .ownSl _ _ _ | exact SV.le.of_eq (by simp)) (Slots.cons rfl (by first | exact .refl _ | exact .nilOwn _ _ | exact .nilSl _ | exact .ownSl _ _ _ | exact SV.le.of_eq (by simp)) (Slots.cons rfl (by first | exact .refl _ | exact .nilOwn _ _ | exact .nilSl _ | exact .ownSl _ _ _ | exact SV.le.of_eq (by simp)) (Slots.cons rfl (by first | exact .refl _ | exact .nilOwn _ _ | exact .nilSl _ | exact .ownSl _ _ _ | exact SV.le.of_eq (by simp)) (Slots.cons rfl (by first | exact .refl _ | exact .nilOwn _ _ | exact .nilSl _ | exact .ownSl _ _ _ | exact SV.le.of_eq (by simp)) (Slots.cons rfl (by first | exact .refl _ | exact .nilOwn _ _ | exact .nilSl _ | exact .ownSl _ _ _ | exact SV.le.of_eq (by simp)) (Slots.cons rfl (by first | exact .refl _ | exact .nilOwn _ _ | exact .nilSl _ | exact .ownSl _ _ _ | exact SV.le.of_eq (by simp)) (Slots.cons rfl (by first | exact .refl _ | exact .nilOwn _ _ | exact .nilSl _ | exact .ownSl _ _ _ | exact SV.le.of_eq (by simp)) (Slots.cons rfl (by first | exact .refl _ | exact .nilOwn _ _ | exact .nilSl _ | exact .ownSl _ _ _ | exact SV.le.of_eq (by simp)) (Slots.cons rfl (by first | exact .refl _ | exact .nilOwn _ _ | exact .nilSl _ | exact .ownSl _ _ _ | exact SV.le.of_eq (by simp)) (Slots.cons rfl (by first | exact .refl _ | exact .nilOwn _ _ | exact .nilSl _ | exact .ownSl _ _ _ | exact SV.le.of_eq (by simp)) Slots.nil))))))))))), (by rw [e2]; first | exact List.Sublist.refl _ | exact List.nil_sublist _ | exact .cons _ (.refl _) | exact .cons _ (.cons _ (.refl _)) | exact .cons _ (.cons _ (.cons _ (.refl _))) | exact .cons _ (.cons _ (.cons _ (.cons _ (.refl _)))) | exact .cons_cons _ (List.nil_sublist _))⟩, (by omega), ⟨j + 1, rfl, rfl, (by have := (List.getElem?_eq_some_iff.1 hy).1; omega)⟩⟩
        ·
          have hgej : fs.length ≤ j := by have := of_decide_eq_false hc3; simp at this; omega
          rw [← List.take_of_length_le hgej] at e
          refine awp_exit ?_
          refine x_thenE ?_
          refine x_thenE ?_
          refine x_blockE ?_
          refine x_block ?_
          refine x_then ?_
          refine awp_region ?_
          refine r_ari _ rfl rfl rfl (wrap_id (by omega)) rfl ?_
          refine r_move rfl rfl ?_
          refine awl_nil ?_
          refine x_then ?_
          refine ⟨nums.length - (k + 1), ⟨102, [(1, .a (.fn fa ca)), (2, .a (.v .nilFunc)), (7, .a (.v (.map (some b20)))), (21, .a (numsA nums)), (22, .a (.v (.int .i64 ((nums.map fun x => [AV.v (.int .u64 x)]).length)))), (23, .a (.v (.int .i64 (((k + 1) : Int)))))], [⟨b20, true, .map (encM Value.string Choice.av (bestOf look (fun _ _ => false) (nums.take (k + 1))))⟩]⟩, ⟨rfl, (Slots.cons rfl (by first | exact .refl _ | exact .nilOwn _ _ | exact .nilSl _ | exact .ownSl _ _ _ | exact SV.le.of_eq (by simp)) (Slots.cons rfl (by first | exact .refl _ | exact .nilOwn _ _ | exact .nilSl _ | exact .ownSl _ _ _ | exact SV.le.of_eq (by simp)) (Slots.cons rfl (by first | exact .refl _ | exact .nilOwn _ _ | exact .nilSl _ | exact .ownSl _ _ _ | exact SV.le.of_eq (by simp)) (Slots.cons rfl (by first | exact .refl _ | exact .nilOwn _ _ | exact .nilSl _ | exact .ownSl _ _ _ | exact SV.le.of_eq (by simp)) (Slots.cons rfl (by first | exact .refl _ | exact .nilOwn _ _ | exact .nilSl _ | exact .ownSl _ _ _ | exact SV.le.of_eq (by simp)) (Slots.cons rfl (by first | exact .refl _ | exact .nilOwn _ _ | exact .nilSl _ | exact .ownSl _ _ _ | exact SV.le.of_eq (by simp)) Slots.nil)))))), (by rw [e]; first | exact List.Sublist.refl _ | exact List.nil_sublist _ | exact .cons _ (.refl _) | exact .cons _ (.cons _ (.refl _)) | exact .cons _ (.cons _ (.cons _ (.refl _))) | exact .cons _ (.cons _ (.cons _ (.cons _ (.refl _)))) | exact .cons_cons _ (List.nil_sublist _))⟩, (by omega), ⟨k + 1, rfl, rfl, (by have := (List.getElem?_eq_some_iff.1 hx).1; omega)⟩⟩
  ·
    have hge : nums.length ≤ k := by have := of_decide_eq_false hc0; simp at this; omega
    have hkl : nums.take k = nums := List.take_of_length_le hge
    refine awp_exit ?_
    refine x_thenE ?_
    refine x_thenE ?_
    refine x_blockE ?_
    refine x_then ?_
    refine awp_seq ?_
    refine awp_region ?_
    refine r_assign rfl rfl ?_
    refine awl_nil ?_
    refine x_then ?_
    refine awp_seq ?_
    refine awp_seq ?_
    refine awp_region ?_
    refine r_move rfl rfl ?_
    refine r_callO rfl rfl (.cons (.ev rfl rfl) .nil) (sortedC_ok (encM_keys (ek := Value.string) (ev := Choice.av) (bestOf look (fun _ _ => false) (nums.take k))) (best_nodup look (fun _ _ => false) _) (fun s hs => by rw [hkl] at hs; exact hbn s hs) (by rw [encM_len, hkl]; omega)) rfl T.en31 (.refl _) rfl (fun r nobjs hr => ?_)
    obtain ⟨rfl, rfl⟩ := hr
    rw [hkl]
    generalize hns : sortB ((bestOf look (fun _ _ => false) nums).map (·.1)) = ns
    have hnl : ns.length ≤ 1000000 := by rw [← hns, sortB_len, List.length_map]; omega
    first | (refine r_lenS rfl rfl T.sl46 rfl ?_) | (refine r_lenNil rfl T.sl46 rfl ?_)
    refine r_move rfl rfl ?_
    refine awl_nil ?_
    refine x_then ?_
    refine awp_block ?_
    refine awp_loop (fun nn0 S => ∃ i : Nat, S = ⟨102, [(7, .a (.v (.map (some b20)))), (17, .own 17 4 (((ns.take i).map fun n => (mget (bestOf look (fun _ _ => false) nums) n).getD .zero).map Choice.cs)), (88, .a (strsA ns)), (89, .a (.v (.int .i64 ((ns.map fun s => [AV.v (.string s)]).length)))), (90, .a (.v (.int .i64 ((i : Int)))))], [⟨b20, true, .map (encM Value.string Choice.av (bestOf look (fun _ _ => false) nums))⟩]⟩ ∧ nn0 = ns.length - i ∧ (i ≤ ns.length)) (ns.length - (0)) ⟨102, [(7, .a (.v (.map (some b20)))), (17, .own 17 4 (((ns.take (0)).map fun n => (mget (bestOf look (fun _ _ => false) nums) n).getD .zero).map Choice.cs)), (88, .a (strsA ns)), (89, .a (.v (.int .i64 ((ns.map fun s => [AV.v (.string s)]).length)))), (90, .a (.v (.int .i64 (((0) : Int)))))], [⟨b20, true, .map (encM Value.string Choice.av (bestOf look (fun _ _ => false) nums))⟩]⟩ ⟨rfl, (Slots.cons rfl (by first | exact .refl _ | exact .nilOwn _ _ | exact .nilSl _ | exact .ownSl _ _ _ | exact SV.le.of_eq (by simp)) (Slots.cons rfl (by first | exact .refl _ | exact .nilOwn _ _ | exact .nilSl _ | exact .ownSl _ _ _ | exact SV.le.of_eq (by simp)) (Slots.cons rfl (by first | exact .refl _ | exact .nilOwn _ _ | exact .nilSl _ | exact .ownSl _ _ _ | exact SV.le.of_eq (by simp)) (Slots.cons rfl (by first | exact .refl _ | exact .nilOwn _ _ | exact .nilSl _ | exact .ownSl _ _ _ | exact SV.le.of_eq (by simp)) (Slots.cons rfl (by first | exact .refl _ | exact .nilOwn _ _ | exact .nilSl _ | exact .ownSl _ _ _ | exact SV.le.of_eq (by simp)) Slots.nil))))), (by first | exact List.Sublist.refl _ | exact List.nil_sublist _ | exact .cons _ (.refl _) | exact .cons _ (.cons _ (.refl _)) | exact .cons _ (.cons _ (.cons _ (.refl _))) | exact .cons _ (.cons _ (.cons _ (.cons _ (.refl _)))) | exact .cons_cons _ (List.nil_sublist _))⟩ ⟨0, rfl, rfl, Nat.zero_le _⟩ ?_
    rintro nn0 _ ⟨i, rfl, rfl, hi⟩
    refine awp_seq ?_
    refine awp_region ?_
    refine r_cmp rfl rfl rfl rfl ?_
    refine awl_nil ?_
    refine x_then ?_
    refine awp_seq ?_
    refine awp_cond rfl (fun hc7 => ?_) (fun hc7 => ?_)
    ·
      have hlti : i < ns.length := by have := of_decide_eq_true hc7; simpa using this
      obtain ⟨z, hz⟩ := get_lt hlti
      have e3 : ((ns.take (i + 1)).map fun n => (mget (bestOf look (fun _ _ => false) nums) n).getD .zero).map Choice.cs = ((ns.take i).map fun n => (mget (bestOf look (fun _ _ => false) nums) n).getD .zero).map Choice.cs ++ [Choice.cs ((mget (bestOf look (fun _ _ => false) nums) z).getD .zero)] := by rw [map_take hz, List.map_append]; rfl
      refine awp_skip ?_
      refine x_then ?_
      refine awp_seq ?_
      refine awp_block ?_
      refine awp_seq ?_
      refine awp_region ?_
      refine r_index rfl rfl rfl T.sl46 T.sz9 (by omega) (get_map hz) rfl ?_
      first | (refine r_load1 rfl T.agg9 rfl ?_) | (refine r_load1b 0 rfl rfl rfl T.agg9 rfl ?_)
      refine r_assign rfl rfl ?_
      refine awl_nil ?_
      refine x_then ?_
      refine awp_region ?_
      refine r_move rfl rfl ?_
      refine r_move rfl rfl ?_
      refine r_move rfl rfl ?_
      refine r_lookup 0 (keyEnc_string T.un9) (ev := Choice.av) Choice.zero rfl rfl rfl T.map71 T.zav33 rfl ?_
      refine r_lit 98 (parts := [(0, .tmp 97)]) rfl T.sl26 T.sz33 T.zraw33 rfl rfl rfl rfl rfl rfl rfl ?_
      refine r_append 17 rfl (by first | exact .own _ | exact .nil) rfl (by first | exact .sl _ | exact .own _ _ | exact .nil) T.sl26 T.sz33 (by decide) T.by33 T.zlen33 (by simp [chunks] <;> omega) (by simp [chunks] <;> omega) rfl ?_
      refine r_assign rfl rfl ?_
      refine awl_nil ?_
      refine x_block ?_
      refine x_then ?_
      refine awp_region ?_
      refine r_ari _ rfl rfl rfl (wrap_id (by omega)) rfl ?_
      refine r_move rfl rfl ?_
      refine awl_nil ?_
      refine x_then ?_
      refine ⟨ns.length - (i + 1), ⟨102, [(7, .a (.v (.map (some b20)))), (17, .own 17 4 (((ns.take (i + 1)).map fun n => (mget (bestOf look (fun _ _ => false) nums) n).getD .zero).map Choice.cs)), (88, .a (strsA ns)), (89, .a (.v (.int .i64 ((ns.map fun s => [AV.v (.string s)]).length)))), (90, .a (.v (.int .i64 (((i + 1) : Int)))))], [⟨b20, true, .map (encM Value.string Choice.av (bestOf look (fun _ _ => false) nums))⟩]⟩, ⟨rfl, (Slots.cons rfl (by first | exact .refl _ | exact .nilOwn _ _ | exact .nilSl _ | exact .ownSl _ _ _ | exact SV.le.of_eq (by rw [e3] <;> rfl)) (Slots.cons rfl (by first | exact .refl _ | exact .nilOwn _ _ | exact .nilSl _ | exact .ownSl _ _ _ | exact SV.le.of_eq (by rw [e3] <;> rfl)) (Slots.cons rfl (by first | exact .refl _ | exact .nilOwn _ _ | exact .nilSl _ | exact .ownSl _ _ _ | exact SV.le.of_eq (by rw [e3] <;> rfl)) (Slots.cons rfl (by first | exact .refl _ | exact .nilOwn _ _ | exact .nilSl _ | exact .ownSl _ _ _ | exact SV.le.of_eq (by rw [e3] <;> rfl)) (Slots.cons rfl (by first | exact .refl _ | exact .nilOwn _ _ | exact .nilSl _ | exact .ownSl _ _ _ | exact SV.le.of_eq (by rw [e3] <;> rfl)) Slots.nil))))), (by first | exact List.Sublist.refl _ | exact List.nil_sublist _ | exact .cons _ (.refl _) | exact .cons _ (.cons _ (.refl _)) | exact .cons _ (.cons _ (.cons _ (.refl _))) | exact .cons _ (.cons _ (.cons _ (.cons _ (.refl _)))) | exact .cons_cons _ (List.nil_sublist _))⟩, (by omega), ⟨i + 1, rfl, rfl, (by have := (List.getElem?_eq_some_iff.1 hz).1; omega)⟩⟩
    ·
      have hgei : ns.length ≤ i := by have := of_decide_eq_false hc7; simp at this; omega
      have hil : ns.take i = ns := List.take_of_length_le hgei
      refine awp_exit ?_
      refine x_thenE ?_
      refine x_thenE ?_
      refine x_blockE ?_
      refine x_then ?_
      refine awp_seq ?_
      refine awp_region ?_
      refine r_move rfl rfl ?_
      refine r_assign rfl rfl ?_
      refine awl_nil ?_
      refine x_then ?_
      refine awp_ret ?_
      exact ⟨(.inl rfl), _, [], (.one (by first | exact .mk rfl rfl | exact .nil rfl)), ⟨rfl, by rw [hil, ← hns]; rfl⟩, (List.nil_sublist _), (by simp)⟩

theorem plan_noat (nums : List Int) (wv : AV) (hnl : nums.length ≤ 1000000) : AC Try.prog 11 [numsA nums, .v .nilFunc, wv] [] (fun r n => n = [] ∧ r = choicesA []) := by
  refine ac_of_awp (rs := [6]) (nt := 102) Try.func11 rfl rfl rfl rfl (fun w0 C0 => ?_)
  refine awp_seq ?_
  refine awp_region ?_
  refine r_assign rfl rfl ?_
  refine awl_nil ?_
  refine x_then ?_
  refine awp_seq ?_
  refine awp_region ?_
  refine r_makeMap (ek := Value.string) (ev := Choice.av) [] rfl rfl (fun b20 => ?_)
  refine r_assign rfl rfl ?_
  refine awl_nil ?_
  refine x_then ?_
  refine awp_seq ?_
  refine awp_seq ?_
  refine awp_region ?_
  refine r_move rfl rfl ?_
  first | (refine r_lenS rfl rfl T.sl23 rfl ?_) | (refine r_lenNil rfl T.sl23 rfl ?_)
  refine r_move rfl rfl ?_
  refine awl_nil ?_
  refine x_then ?_
  refine awp_block ?_
  refine awp_loop (fun nn0 S => ∃ k : Nat, S = ⟨102, [(1, .a (.v .nilFunc)), (7, .a (.v (.map (some b20)))), (21, .a (numsA nums)), (22, .a (.v (.int .i64 ((nums.map fun x => [AV.v (.int .u64 x)]).length)))), (23, .a (.v (.int .i64 ((k : Int)))))], [⟨b20, true, .map (encM Value.string Choice.av ([] : List (ByteArray × Choice)))⟩]⟩ ∧ nn0 = nums.length - k ∧ (k ≤ nums.length)) (nums.length - (0)) ⟨102, [(1, .a (.v .nilFunc)), (7, .a (.v (.map (some b20)))), (21, .a (numsA nums)), (22, .a (.v (.int .i64 ((nums.map fun x => [AV.v (.int .u64 x)]).length)))), (23, .a (.v (.int .i64 (((0) : Int)))))], [⟨b20, true, .map (encM Value.string Choice.av ([] : List (ByteArray × Choice)))⟩]⟩ ⟨rfl, (Slots.cons rfl (by first | exact .refl _ | exact .nilOwn _ _ | exact .nilSl _ | exact .ownSl _ _ _ | exact SV.le.of_eq (by simp)) (Slots.cons rfl (by first | exact .refl _ | exact .nilOwn _ _ | exact .nilSl _ | exact .ownSl _ _ _ | exact SV.le.of_eq (by simp)) (Slots.cons rfl (by first | exact .refl _ | exact .nilOwn _ _ | exact .nilSl _ | exact .ownSl _ _ _ | exact SV.le.of_eq (by simp)) (Slots.cons rfl (by first | exact .refl _ | exact .nilOwn _ _ | exact .nilSl _ | exact .ownSl _ _ _ | exact SV.le.of_eq (by simp)) (Slots.cons rfl (by first | exact .refl _ | exact .nilOwn _ _ | exact .nilSl _ | exact .ownSl _ _ _ | exact SV.le.of_eq (by simp)) Slots.nil))))), (by first | exact List.Sublist.refl _ | exact List.nil_sublist _ | exact .cons _ (.refl _) | exact .cons _ (.cons _ (.refl _)) | exact .cons _ (.cons _ (.cons _ (.refl _))) | exact .cons _ (.cons _ (.cons _ (.cons _ (.refl _)))) | exact .cons_cons _ (List.nil_sublist _))⟩ ⟨0, rfl, rfl, Nat.zero_le _⟩ ?_
  rintro nn0 _ ⟨k, rfl, rfl, hk⟩
  refine awp_seq ?_
  refine awp_region ?_
  refine r_cmp rfl rfl rfl rfl ?_
  refine awl_nil ?_
  refine x_then ?_
  refine awp_seq ?_
  refine awp_cond rfl (fun hc0 => ?_) (fun hc0 => ?_)
  ·
    have hlt : k < nums.length := by have := of_decide_eq_true hc0; simpa using this
    obtain ⟨x, hx⟩ := get_lt hlt
    refine awp_skip ?_
    refine x_then ?_
    refine awp_seq ?_
    refine awp_block ?_
    refine awp_seq ?_
    refine awp_region ?_
    refine r_index rfl rfl rfl T.sl23 T.sz30 (by omega) (get_map hx) rfl ?_
    first | (refine r_load1 rfl T.agg30 rfl ?_) | (refine r_load1b 0 rfl rfl rfl T.agg30 rfl ?_)
    refine r_assign rfl rfl ?_
    refine awl_nil ?_
    refine x_then ?_
    refine awp_seq ?_
    refine awp_seq ?_
    refine awp_region ?_
    refine r_move rfl rfl ?_
    first | (refine r_fn_eq rfl T.un28 rfl ?_) | (refine r_nofn_eq rfl T.un28 rfl ?_)
    refine awl_nil ?_
    refine x_then ?_
    refine awp_cond rfl (fun hc1 => ?_) (fun hc1 => ?_)
    ·
      refine awp_exit ?_
      refine x_thenE ?_
      refine x_blockO rfl ?_
      refine x_thenE ?_
      refine x_thenE ?_
      refine x_blockE ?_
      refine x_then ?_
      refine awp_seq ?_
      refine awp_region ?_
      refine r_assign rfl rfl ?_
      refine awl_nil ?_
      refine x_then ?_
      refine awp_seq ?_
      refine awp_seq ?_
      refine awp_region ?_
      refine r_move rfl rfl ?_
      refine r_callO rfl rfl (.cons (.ev rfl rfl) .nil) (sortedC_ok (encM_keys (ek := Value.string) (ev := Choice.av) ([] : List (ByteArray × Choice))) (by simp) (by simp) (by simp [encM])) rfl T.en31 (.refl _) rfl (fun r nobjs hr => ?_)
      obtain ⟨rfl, rfl⟩ := hr
      generalize hns : sortB (([] : List (ByteArray × Choice)).map (·.1)) = ns
      have hn0 : ns = [] := by rw [← hns]; simp [sortB]
      subst hn0
      first | (refine r_lenS rfl rfl T.sl46 rfl ?_) | (refine r_lenNil rfl T.sl46 rfl ?_)
      refine r_move rfl rfl ?_
      refine awl_nil ?_
      refine x_then ?_
      refine awp_block ?_
      refine awp_loop (fun nn0 S => ∃ i : Nat, S = ⟨102, [(7, .a (.v (.map (some b20)))), (17, .own 17 4 []), (88, .a (strsA [])), (89, .a (.v (.int .i64 ((([] : List ByteArray).map fun s => [AV.v (.string s)]).length)))), (90, .a (.v (.int .i64 ((i : Int)))))], [⟨b20, true, .map (encM Value.string Choice.av ([] : List (ByteArray × Choice)))⟩]⟩ ∧ nn0 = 0 - i) (0 - (0)) ⟨102, [(7, .a (.v (.map (some b20)))), (17, .own 17 4 []), (88, .a (strsA [])), (89, .a (.v (.int .i64 ((([] : List ByteArray).map fun s => [AV.v (.string s)]).length)))), (90, .a (.v (.int .i64 (((0) : Int)))))], [⟨b20, true, .map (encM Value.string Choice.av ([] : List (ByteArray × Choice)))⟩]⟩ ⟨rfl, (Slots.cons rfl (by first | exact .refl _ | exact .nilOwn _ _ | exact .nilSl _ | exact .ownSl _ _ _ | exact SV.le.of_eq (by simp)) (Slots.cons rfl (by first | exact .refl _ | exact .nilOwn _ _ | exact .nilSl _ | exact .ownSl _ _ _ | exact SV.le.of_eq (by simp)) (Slots.cons rfl (by first | exact .refl _ | exact .nilOwn _ _ | exact .nilSl _ | exact .ownSl _ _ _ | exact SV.le.of_eq (by simp)) (Slots.cons rfl (by first | exact .refl _ | exact .nilOwn _ _ | exact .nilSl _ | exact .ownSl _ _ _ | exact SV.le.of_eq (by simp)) (Slots.cons rfl (by first | exact .refl _ | exact .nilOwn _ _ | exact .nilSl _ | exact .ownSl _ _ _ | exact SV.le.of_eq (by simp)) Slots.nil))))), (by first | exact List.Sublist.refl _ | exact List.nil_sublist _ | exact .cons _ (.refl _) | exact .cons _ (.cons _ (.refl _)) | exact .cons _ (.cons _ (.cons _ (.refl _))) | exact .cons _ (.cons _ (.cons _ (.cons _ (.refl _)))) | exact .cons_cons _ (List.nil_sublist _))⟩ ⟨0, rfl, rfl⟩ ?_
      rintro nn0 _ ⟨i, rfl, rfl⟩
      refine awp_seq ?_
      refine awp_region ?_
      refine r_cmp rfl rfl rfl rfl ?_
      refine awl_nil ?_
      refine x_then ?_
      refine awp_seq ?_
      refine awp_cond rfl (fun hc7 => ?_) (fun hc7 => ?_)
      ·
        exfalso; have := of_decide_eq_true hc7; simp at this; omega
      ·
        refine awp_exit ?_
        refine x_thenE ?_
        refine x_thenE ?_
        refine x_blockE ?_
        refine x_then ?_
        refine awp_seq ?_
        refine awp_region ?_
        refine r_move rfl rfl ?_
        refine r_assign rfl rfl ?_
        refine awl_nil ?_
        refine x_then ?_
        refine awp_ret ?_
        exact ⟨(.inl rfl), _, [], (.one (by first | exact .mk rfl rfl | exact .nil rfl)), ⟨rfl, rfl⟩, (List.nil_sublist _), (by simp)⟩
    ·
      exfalso; cases hc1
  ·
    refine awp_exit ?_
    refine x_thenE ?_
    refine x_thenE ?_
    refine x_blockE ?_
    refine x_then ?_
    refine awp_seq ?_
    refine awp_region ?_
    refine r_assign rfl rfl ?_
    refine awl_nil ?_
    refine x_then ?_
    refine awp_seq ?_
    refine awp_seq ?_
    refine awp_region ?_
    refine r_move rfl rfl ?_
    refine r_callO rfl rfl (.cons (.ev rfl rfl) .nil) (sortedC_ok (encM_keys (ek := Value.string) (ev := Choice.av) ([] : List (ByteArray × Choice))) (by simp) (by simp) (by simp [encM])) rfl T.en31 (.refl _) rfl (fun r nobjs hr => ?_)
    obtain ⟨rfl, rfl⟩ := hr
    generalize hns : sortB (([] : List (ByteArray × Choice)).map (·.1)) = ns
    have hn0 : ns = [] := by rw [← hns]; simp [sortB]
    subst hn0
    first | (refine r_lenS rfl rfl T.sl46 rfl ?_) | (refine r_lenNil rfl T.sl46 rfl ?_)
    refine r_move rfl rfl ?_
    refine awl_nil ?_
    refine x_then ?_
    refine awp_block ?_
    refine awp_loop (fun nn0 S => ∃ i : Nat, S = ⟨102, [(7, .a (.v (.map (some b20)))), (17, .own 17 4 []), (88, .a (strsA [])), (89, .a (.v (.int .i64 ((([] : List ByteArray).map fun s => [AV.v (.string s)]).length)))), (90, .a (.v (.int .i64 ((i : Int)))))], [⟨b20, true, .map (encM Value.string Choice.av ([] : List (ByteArray × Choice)))⟩]⟩ ∧ nn0 = 0 - i) (0 - (0)) ⟨102, [(7, .a (.v (.map (some b20)))), (17, .own 17 4 []), (88, .a (strsA [])), (89, .a (.v (.int .i64 ((([] : List ByteArray).map fun s => [AV.v (.string s)]).length)))), (90, .a (.v (.int .i64 (((0) : Int)))))], [⟨b20, true, .map (encM Value.string Choice.av ([] : List (ByteArray × Choice)))⟩]⟩ ⟨rfl, (Slots.cons rfl (by first | exact .refl _ | exact .nilOwn _ _ | exact .nilSl _ | exact .ownSl _ _ _ | exact SV.le.of_eq (by simp)) (Slots.cons rfl (by first | exact .refl _ | exact .nilOwn _ _ | exact .nilSl _ | exact .ownSl _ _ _ | exact SV.le.of_eq (by simp)) (Slots.cons rfl (by first | exact .refl _ | exact .nilOwn _ _ | exact .nilSl _ | exact .ownSl _ _ _ | exact SV.le.of_eq (by simp)) (Slots.cons rfl (by first | exact .refl _ | exact .nilOwn _ _ | exact .nilSl _ | exact .ownSl _ _ _ | exact SV.le.of_eq (by simp)) (Slots.cons rfl (by first | exact .refl _ | exact .nilOwn _ _ | exact .nilSl _ | exact .ownSl _ _ _ | exact SV.le.of_eq (by simp)) Slots.nil))))), (by first | exact List.Sublist.refl _ | exact List.nil_sublist _ | exact .cons _ (.refl _) | exact .cons _ (.cons _ (.refl _)) | exact .cons _ (.cons _ (.cons _ (.refl _))) | exact .cons _ (.cons _ (.cons _ (.cons _ (.refl _)))) | exact .cons_cons _ (List.nil_sublist _))⟩ ⟨0, rfl, rfl⟩ ?_
    rintro nn0 _ ⟨i, rfl, rfl⟩
    refine awp_seq ?_
    refine awp_region ?_
    refine r_cmp rfl rfl rfl rfl ?_
    refine awl_nil ?_
    refine x_then ?_
    refine awp_seq ?_
    refine awp_cond rfl (fun hc7 => ?_) (fun hc7 => ?_)
    ·
      exfalso; have := of_decide_eq_true hc7; simp at this; omega
    ·
      refine awp_exit ?_
      refine x_thenE ?_
      refine x_thenE ?_
      refine x_blockE ?_
      refine x_then ?_
      refine awp_seq ?_
      refine awp_region ?_
      refine r_move rfl rfl ?_
      refine r_assign rfl rfl ?_
      refine awl_nil ?_
      refine x_then ?_
      refine awp_ret ?_
      exact ⟨(.inl rfl), _, [], (.one (by first | exact .mk rfl rfl | exact .nil rfl)), ⟨rfl, rfl⟩, (List.nil_sublist _), (by simp)⟩

end Go.Proofs.Ytpoacfbobalpkaa.A

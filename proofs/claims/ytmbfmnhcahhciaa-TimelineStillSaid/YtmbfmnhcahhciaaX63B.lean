/- Layer 63: walks of timeline.Of. -/
import Derived.Test.YtmbfmnhcahhciaaProg
import Derived.KernelRfl
import Derived.Test.YtmbfmnhcahhciaaX63A
import Derived.Test.YtmbfmnhcahhciaaAB
namespace Go.Proofs.Ytmbfmnhcahhciaa.A
open Go Go.RowKit
set_option linter.unusedVariables false
set_option linter.unusedSimpArgs false
set_option maxRecDepth 100000

theorem TF.un26 : Try.prog.underlying 26 = some (.func #[30] #[31, 4] false) := by kernel_rfl
theorem TF.en31 : entersT Try.prog 31 := enters_of Try.func31 (by kernel_rfl) (by kernel_rfl)
theorem TF.en17 : entersT Try.prog 17 := enters_of Try.func17 (by kernel_rfl) (by kernel_rfl)
theorem TF.pl46 : placesT Try.prog 46 = some [(0, 1), (1, 4)] := by kernel_rfl
theorem TF.zero46 : ZeroT Try.prog 46 [.v (.int .u64 0), .v (.int .i64 0), .v (.string ⟨#[]⟩), .v (.string ⟨#[]⟩), .sl 1 []] := ⟨[(.int .u64 0), (.int .i64 0), (.string ⟨#[]⟩), (.string ⟨#[]⟩), (.slice none 0 0)], by kernel_rfl, (.cons (.refl _) (.cons (.refl _) (.cons (.refl _) (.cons (.refl _) (.cons (.nil 1) .nil)))))⟩
theorem TF.sl28 : sliceT Try.prog 28 = some 46 := by kernel_rfl
theorem TF.sz46 : szT Try.prog 46 = some 5 := by kernel_rfl
theorem TF.zraw46 : zeroT Try.prog 46 = some [(.int .u64 0), (.int .i64 0), (.string ⟨#[]⟩), (.string ⟨#[]⟩), (.slice none 0 0)] := by kernel_rfl
theorem TF.by46 : bytesT Try.prog 46 = some 72 := by kernel_rfl
theorem TF.zlen46 : (zeroT Try.prog 46).map (·.length) = some 5 := by kernel_rfl
theorem TF.en30 : entersT Try.prog 30 := enters_of Try.func30 (by kernel_rfl) (by kernel_rfl)

set_option maxHeartbeats 1000000 in
theorem tl_ok {f : FuncId} {caps : List AV} (at_ : Int → List File × Bool) (hen : entersT Try.prog f) (J : List Int → List OE → Prop) (hJ : ∀ a os, J a os → os.all (·.rw) = true) (hf : ∀ a os m, J a os → a.length < 1000 → AW Try.prog f (.v (.int .u64 m) :: caps) [] os (fun r n => r = .tup [files (at_ m).1, boolA (at_ m).2] ∧ J (a ++ [m]) (Tr n))) (hg : ∀ m, GoodF (at_ m).1) (ms : List Int) (hml : ms.length ≤ 1000) {os0 : List OE} (h0 : J [] (Tr os0)) : AW Try.prog 14 [numsA ms, .fn f caps] [] os0 (fun r n => r = evsA (tlF ms at_) ∧ (riseF ms = true → J ms n) ∧ (riseF ms = false → n = [])) := by
  refine aw_of_awp (rs := [4]) (nt := 52) (so := (Tr os0)) Try.func14 rfl rfl rfl rfl rfl (fun w0 C0 hq => ?_)
  refine awp_seq ?_
  refine awp_region ?_
  refine r_assign rfl rfl ?_
  refine awl_nil ?_
  refine x_then ?_
  refine awp_seq ?_
  refine awp_seq ?_
  refine awp_region ?_
  refine r_move rfl rfl ?_
  first | (refine r_fn_eq rfl TF.un26 rfl ?_) | (refine r_nofn_eq rfl TF.un26 rfl ?_)
  refine r_move rfl rfl ?_
  refine g_run rfl rfl rfl ?_
  refine r_move rfl rfl ?_
  refine g_run rfl rfl rfl ?_
  refine r_call0 hq rfl rfl (.cons (.ev rfl rfl) .nil) (trise_ok ms (by omega)) rfl TF.en31 rfl (fun r hr => ?_)
  obtain rfl := hr
  refine g_run rfl rfl rfl ?_
  refine r_not rfl rfl ?_
  refine r_pickF rfl rfl rfl rfl ?_
  refine awl_nil ?_
  refine x_then ?_
  refine awp_cond rfl (fun hc0 => ?_) (fun hc0 => ?_)
  ·
    have hrf : riseF ms = false := by simpa using hc0
    refine awp_seq ?_
    refine awp_region ?_
    refine r_assign rfl rfl ?_
    refine awl_nil ?_
    refine x_then ?_
    refine awp_ret ?_
    refine x_thenR ?_
    exact ⟨(.inl rfl), _, [], (.one (.nil (sz := 5) rfl)), ⟨by rw [tlF, hrf]; rfl, fun h => (by rw [hrf] at h; cases h), fun _ => rfl⟩, (List.nil_sublist _), (by simp)⟩
  ·
    have hrt : riseF ms = true := by simpa using hc0
    refine awp_skip ?_
    refine x_then ?_
    refine awp_seq ?_
    refine awp_region ?_
    refine r_assign rfl rfl ?_
    refine awl_nil ?_
    refine x_then ?_
    refine awp_seq ?_
    refine awp_region ?_
    refine r_assign rfl rfl ?_
    refine awl_nil ?_
    refine x_then ?_
    refine awp_seq ?_
    refine awp_seq ?_
    refine awp_region ?_
    refine r_move rfl rfl ?_
    first | (refine r_lenS rfl rfl TF.sl22 rfl ?_) | (refine r_lenNil rfl TF.sl22 rfl ?_) | (refine r_lenV rfl TF.sl22 rfl ?_)
    refine r_move rfl rfl ?_
    refine awl_nil ?_
    refine x_then ?_
    refine awp_block ?_
    refine awp_loop (fun nn0 S => ∃ k : Nat, ∃ was : List File, ∃ out : List Ev, ∃ os : List OE, S = ⟨52, [(1, .a (.fn f caps)), (5, .own 5 5 (out.map Ev.cs)), (6, .a (files was)), (20, .a (numsA ms)), (21, .a (.v (.int .i64 ((ms.map fun m => [AV.v (.int .u64 m)]).length)))), (22, .a (.v (.int .i64 ((k : Int)))))], os⟩ ∧ nn0 = ms.length - k ∧ (k ≤ ms.length) ∧ (tlG (ms.take k) at_ = (was, out)) ∧ (J (ms.take k) os) ∧ (GoodF was) ∧ (out.length ≤ 12 * k)) (ms.length - (0)) ⟨52, [(1, .a (.fn f caps)), (5, .own 5 5 (([]).map Ev.cs)), (6, .a (files ([]))), (20, .a (numsA ms)), (21, .a (.v (.int .i64 ((ms.map fun m => [AV.v (.int .u64 m)]).length)))), (22, .a (.v (.int .i64 (((0) : Int)))))], ((Tr os0))⟩ ⟨rfl, (Slots.cons rfl (by first | exact .refl _ | exact .nilOwn _ _ | exact .nilSl _ | exact .ownSl _ _ _  | exact SV.le.of_eq (by simp)) (Slots.cons rfl (by first | exact .refl _ | exact .nilOwn _ _ | exact .nilSl _ | exact .ownSl _ _ _  | exact SV.le.of_eq (by simp)) (Slots.cons rfl (by first | exact .refl _ | exact .nilOwn _ _ | exact .nilSl _ | exact .ownSl _ _ _  | exact SV.le.of_eq (by simp)) (Slots.cons rfl (by first | exact .refl _ | exact .nilOwn _ _ | exact .nilSl _ | exact .ownSl _ _ _  | exact SV.le.of_eq (by simp)) (Slots.cons rfl (by first | exact .refl _ | exact .nilOwn _ _ | exact .nilSl _ | exact .ownSl _ _ _  | exact SV.le.of_eq (by simp)) (Slots.cons rfl (by first | exact .refl _ | exact .nilOwn _ _ | exact .nilSl _ | exact .ownSl _ _ _  | exact SV.le.of_eq (by simp)) Slots.nil)))))), (by first | exact List.Sublist.refl _ | exact .cons_cons _ (.cons _ (.refl _)) | exact List.nil_sublist _ | exact .cons _ (.refl _) | exact .cons _ (.cons _ (.refl _)) | exact .cons _ (.cons _ (.cons _ (.refl _))) | exact .cons _ (.cons _ (.cons _ (.cons _ (.refl _)))) | exact .cons_cons _ (List.nil_sublist _))⟩ ⟨0, [], [], (Tr os0), rfl, rfl, Nat.zero_le _, rfl, h0, goodF_nil, (by simp)⟩ ?_
    rintro nn0 _ ⟨k, was, out, os, rfl, rfl, hk, hst, hJk, hwas, hol⟩
    refine awp_seq ?_
    refine awp_region ?_
    refine r_cmp rfl rfl rfl rfl ?_
    refine awl_nil ?_
    refine x_then ?_
    refine awp_seq ?_
    refine awp_cond rfl (fun hc1 => ?_) (fun hc1 => ?_)
    ·
      have hltm : k < ms.length := by have := of_decide_eq_true hc1; simpa using this
      obtain ⟨m, hm⟩ := get_lt hltm
      refine awp_skip ?_
      refine x_then ?_
      refine awp_seq ?_
      refine awp_block ?_
      refine awp_seq ?_
      refine awp_region ?_
      refine r_index rfl rfl rfl TF.sl22 TF.sz30 (by omega) (get_map hm) rfl ?_
      first | (refine r_load1 rfl TF.agg30 rfl ?_) | (refine r_load1b 0 rfl rfl rfl TF.agg30 rfl ?_)
      refine r_assign rfl rfl ?_
      refine awl_nil ?_
      refine x_then ?_
      refine awp_seq ?_
      refine awp_region ?_
      refine r_move rfl rfl ?_
      refine r_move rfl rfl ?_
      refine r_callP hq (wo := os) (un := []) rfl rfl (.cons (.ev rfl rfl) .nil) (hf _ os m hJk (by simp; omega)) rfl hen (by rw [List.append_nil]; exact List.Perm.refl _) (hJ _ _ hJk) (List.nil_sublist _) rfl (fun r nobjs hr => ?_)
      obtain ⟨rfl, hJ2⟩ := hr
      rw [List.append_nil]
      have hJ3 : J (ms.take (k + 1)) (Tr nobjs) := by rw [takeS hm]; exact hJ2
      have hst1 := tlG_step (at_ := at_) hm
      rw [hst] at hst1
      refine r_move rfl rfl ?_
      refine r_extract rfl rfl rfl ?_
      refine r_extract rfl rfl rfl ?_
      refine r_assign rfl rfl ?_
      refine r_assign rfl rfl ?_
      refine awl_nil ?_
      refine x_then ?_
      refine awp_seq ?_
      refine awp_seq ?_
      refine awp_region ?_
      refine r_move rfl rfl ?_
      refine r_not rfl rfl ?_
      refine awl_nil ?_
      refine x_then ?_
      refine awp_cond rfl (fun hc2 => ?_) (fun hc2 => ?_)
      ·
        have hst2 : tlG (ms.take (k + 1)) at_ = (was, out) := by rw [hst1, tlStep, show (at_ m).2 = false from by simpa using hc2]; rfl
        refine awp_exit ?_
        refine x_thenE ?_
        refine x_blockE ?_
        refine x_then ?_
        refine awp_region ?_
        refine r_ari _ rfl rfl rfl (wrap_id (by first | omega | (simp; omega))) rfl ?_
        refine r_move rfl rfl ?_
        refine awl_nil ?_
        refine x_then ?_
        refine ⟨ms.length - (k + 1), ⟨52, [(1, .a (.fn f caps)), (5, .own 5 5 ((out).map Ev.cs)), (6, .a (files (was))), (20, .a (numsA ms)), (21, .a (.v (.int .i64 ((ms.map fun m => [AV.v (.int .u64 m)]).length)))), (22, .a (.v (.int .i64 (((k + 1) : Int)))))], ((Tr nobjs))⟩, ⟨rfl, (Slots.cons rfl (by first | exact .refl _ | exact .nilOwn _ _ | exact .nilSl _ | exact .ownSl _ _ _  | exact SV.le.of_eq (by simp)) (Slots.cons rfl (by first | exact .refl _ | exact .nilOwn _ _ | exact .nilSl _ | exact .ownSl _ _ _  | exact SV.le.of_eq (by simp)) (Slots.cons rfl (by first | exact .refl _ | exact .nilOwn _ _ | exact .nilSl _ | exact .ownSl _ _ _  | exact SV.le.of_eq (by simp)) (Slots.cons rfl (by first | exact .refl _ | exact .nilOwn _ _ | exact .nilSl _ | exact .ownSl _ _ _  | exact SV.le.of_eq (by simp)) (Slots.cons rfl (by first | exact .refl _ | exact .nilOwn _ _ | exact .nilSl _ | exact .ownSl _ _ _  | exact SV.le.of_eq (by simp)) (Slots.cons rfl (by first | exact .refl _ | exact .nilOwn _ _ | exact .nilSl _ | exact .ownSl _ _ _  | exact SV.le.of_eq (by simp)) Slots.nil)))))), (by first | exact List.Sublist.refl _ | exact .cons_cons _ (.cons _ (.refl _)) | exact List.nil_sublist _ | exact .cons _ (.refl _) | exact .cons _ (.cons _ (.refl _)) | exact .cons _ (.cons _ (.cons _ (.refl _))) | exact .cons _ (.cons _ (.cons _ (.cons _ (.refl _)))) | exact .cons_cons _ (List.nil_sublist _))⟩, (by omega), ⟨k + 1, was, out, (Tr nobjs), rfl, rfl, (by omega), hst2, hJ3, hwas, (by omega)⟩⟩
      ·
        have hst2 : tlG (ms.take (k + 1)) at_ = ((at_ m).1, out ++ (OfF was (at_ m).1).map (Ev.mk m)) := by rw [hst1, tlStep, show (at_ m).2 = true from by simpa using hc2]; rfl
        have hg1 := hg m
        have hofl := good_of hwas hg1
        refine awp_skip ?_
        refine x_then ?_
        refine awp_seq ?_
        refine awp_seq ?_
        refine awp_region ?_
        refine r_move rfl rfl ?_
        refine r_move rfl rfl ?_
        refine r_call0 hq rfl rfl (.cons (.ev rfl rfl) (.cons (.ev rfl rfl) .nil)) (of_ok was (at_ m).1 (by have := hwas.1; omega) (by have := hg1.1; omega) (fun f hf => (hwas.2 f hf).1) (fun f hf => (hg1.2 f hf).1) (fun f hf => (hwas.2 f hf).2) (fun f hf => (hg1.2 f hf).2)) rfl TF.en17 rfl (fun r hr => ?_)
        obtain rfl := hr
        first | (refine r_lenS rfl rfl TF.sl39 rfl ?_) | (refine r_lenNil rfl TF.sl39 rfl ?_) | (refine r_lenV rfl TF.sl39 rfl ?_)
        refine r_move rfl rfl ?_
        refine awl_nil ?_
        refine x_then ?_
        refine awp_block ?_
        refine awp_loop (fun nn0 S => ∃ j : Nat, S = ⟨52, [(1, .a (.fn f caps)), (5, .own 5 5 ((out ++ ((OfF was (at_ m).1).take j).map (Ev.mk m)).map Ev.cs)), (8, .a (.v (.int .u64 (m)))), (9, .a (files (at_ m).1)), (20, .a (numsA ms)), (21, .a (.v (.int .i64 ((ms.map fun m => [AV.v (.int .u64 m)]).length)))), (22, .a (.v (.int .i64 ((k : Int))))), (36, .a (fcsA (OfF was (at_ m).1))), (37, .a (.v (.int .i64 (((OfF was (at_ m).1).map FC.cs).length)))), (38, .a (.v (.int .i64 ((j : Int)))))], (Tr nobjs)⟩ ∧ nn0 = (OfF was (at_ m).1).length - j ∧ (j ≤ (OfF was (at_ m).1).length)) ((OfF was (at_ m).1).length - (0)) ⟨52, [(1, .a (.fn f caps)), (5, .own 5 5 ((out ++ ((OfF was (at_ m).1).take (0)).map (Ev.mk m)).map Ev.cs)), (8, .a (.v (.int .u64 (m)))), (9, .a (files (at_ m).1)), (20, .a (numsA ms)), (21, .a (.v (.int .i64 ((ms.map fun m => [AV.v (.int .u64 m)]).length)))), (22, .a (.v (.int .i64 ((k : Int))))), (36, .a (fcsA (OfF was (at_ m).1))), (37, .a (.v (.int .i64 (((OfF was (at_ m).1).map FC.cs).length)))), (38, .a (.v (.int .i64 (((0) : Int)))))], (Tr nobjs)⟩ ⟨rfl, (Slots.cons rfl (by first | exact .refl _ | exact .nilOwn _ _ | exact .nilSl _ | exact .ownSl _ _ _  | exact SV.le.ownEq (by simp) | exact SV.le.of_eq (by simp)) (Slots.cons rfl (by first | exact .refl _ | exact .nilOwn _ _ | exact .nilSl _ | exact .ownSl _ _ _  | exact SV.le.ownEq (by simp) | exact SV.le.of_eq (by simp)) (Slots.cons rfl (by first | exact .refl _ | exact .nilOwn _ _ | exact .nilSl _ | exact .ownSl _ _ _  | exact SV.le.ownEq (by simp) | exact SV.le.of_eq (by simp)) (Slots.cons rfl (by first | exact .refl _ | exact .nilOwn _ _ | exact .nilSl _ | exact .ownSl _ _ _  | exact SV.le.ownEq (by simp) | exact SV.le.of_eq (by simp)) (Slots.cons rfl (by first | exact .refl _ | exact .nilOwn _ _ | exact .nilSl _ | exact .ownSl _ _ _  | exact SV.le.ownEq (by simp) | exact SV.le.of_eq (by simp)) (Slots.cons rfl (by first | exact .refl _ | exact .nilOwn _ _ | exact .nilSl _ | exact .ownSl _ _ _  | exact SV.le.ownEq (by simp) | exact SV.le.of_eq (by simp)) (Slots.cons rfl (by first | exact .refl _ | exact .nilOwn _ _ | exact .nilSl _ | exact .ownSl _ _ _  | exact SV.le.ownEq (by simp) | exact SV.le.of_eq (by simp)) (Slots.cons rfl (by first | exact .refl _ | exact .nilOwn _ _ | exact .nilSl _ | exact .ownSl _ _ _  | exact SV.le.ownEq (by simp) | exact SV.le.of_eq (by simp)) (Slots.cons rfl (by first | exact .refl _ | exact .nilOwn _ _ | exact .nilSl _ | exact .ownSl _ _ _  | exact SV.le.ownEq (by simp) | exact SV.le.of_eq (by simp)) (Slots.cons rfl (by first | exact .refl _ | exact .nilOwn _ _ | exact .nilSl _ | exact .ownSl _ _ _  | exact SV.le.ownEq (by simp) | exact SV.le.of_eq (by simp)) Slots.nil)))))))))), (by first | exact List.Sublist.refl _ | exact .cons_cons _ (.cons _ (.refl _)) | exact List.nil_sublist _ | exact .cons _ (.refl _) | exact .cons _ (.cons _ (.refl _)) | exact .cons _ (.cons _ (.cons _ (.refl _))) | exact .cons _ (.cons _ (.cons _ (.cons _ (.refl _)))) | exact .cons_cons _ (List.nil_sublist _))⟩ ⟨0, rfl, rfl, Nat.zero_le _⟩ ?_
        rintro nn0 _ ⟨j, rfl, rfl, hj⟩
        refine awp_seq ?_
        refine awp_region ?_
        refine r_cmp rfl rfl rfl rfl ?_
        refine awl_nil ?_
        refine x_then ?_
        refine awp_seq ?_
        refine awp_cond rfl (fun hc3 => ?_) (fun hc3 => ?_)
        ·
          have hltx : j < (OfF was (at_ m).1).length := by have := of_decide_eq_true hc3; simpa using this
          obtain ⟨x, hx⟩ := get_lt hltx
          refine awp_skip ?_
          refine x_then ?_
          refine awp_seq ?_
          refine awp_block ?_
          refine awp_seq ?_
          refine awp_region ?_
          refine r_index rfl rfl rfl TF.sl39 TF.sz44 (by omega) (get_map hx) rfl ?_
          first | (refine r_loadA rfl TF.agg44 TF.sz44 rfl rfl ?_) | (refine r_loadAb 0 rfl rfl TF.agg44 TF.sz44 rfl rfl ?_)
          refine r_alloc TF.zero44 rfl (fun b12 => ?_)
          first | (refine r_store 0 rfl rfl rfl TF.sz44 rfl rfl rfl ?_) | (refine r_store 1 rfl rfl rfl TF.sz44 rfl rfl rfl ?_)
          refine awl_nil ?_
          refine x_then ?_
          refine awp_region ?_
          refine r_move rfl rfl ?_
          refine r_move rfl rfl ?_
          refine r_loadAb 0 rfl rfl TF.agg44 TF.sz44 rfl rfl ?_
          refine r_build (parts := [(0, .tmp 43), (1, .tmp 44)]) rfl TF.pl46 TF.zero46 rfl rfl rfl ?_
          refine r_lit 46 (parts := [(0, .tmp 45)]) rfl TF.sl28 TF.sz46 TF.zraw46 rfl rfl rfl rfl rfl rfl rfl ?_
          refine r_append 5 rfl (by first | exact .own _ | exact .nil) rfl (by first | exact .sl _ | exact .own _ _ | exact .nil) TF.sl28 TF.sz46 (by decide) TF.by46 TF.zlen46 (by simp [chunks] <;> omega) (by simp [chunks] <;> omega) rfl ?_
          refine r_assign rfl rfl ?_
          refine awl_nil ?_
          refine x_block ?_
          refine x_then ?_
          refine awp_region ?_
          refine r_ari _ rfl rfl rfl (wrap_id (by first | omega | (simp; omega))) rfl ?_
          refine r_move rfl rfl ?_
          refine awl_nil ?_
          refine x_then ?_
          have et : ((out ++ ((OfF was (at_ m).1).take (j + 1)).map (Ev.mk m)).map Ev.cs) = ((out ++ ((OfF was (at_ m).1).take j).map (Ev.mk m)).map Ev.cs) ++ [Ev.cs ⟨m, x⟩] := by rw [map_take hx, ← List.append_assoc, List.map_append]; rfl
          refine ⟨(OfF was (at_ m).1).length - (j + 1), ⟨52, [(1, .a (.fn f caps)), (5, .own 5 5 ((out ++ ((OfF was (at_ m).1).take (j + 1)).map (Ev.mk m)).map Ev.cs)), (8, .a (.v (.int .u64 (m)))), (9, .a (files (at_ m).1)), (20, .a (numsA ms)), (21, .a (.v (.int .i64 ((ms.map fun m => [AV.v (.int .u64 m)]).length)))), (22, .a (.v (.int .i64 ((k : Int))))), (36, .a (fcsA (OfF was (at_ m).1))), (37, .a (.v (.int .i64 (((OfF was (at_ m).1).map FC.cs).length)))), (38, .a (.v (.int .i64 (((j + 1) : Int)))))], (Tr nobjs)⟩, ⟨rfl, (Slots.cons rfl (by first | exact .refl _ | exact .nilOwn _ _ | exact .nilSl _ | exact .ownSl _ _ _  | exact SV.le.ownEq (by first | rfl | (rw [et]; rfl)) | exact SV.le.of_eq (by first | rfl | (rw [et]; rfl))) (Slots.cons rfl (by first | exact .refl _ | exact .nilOwn _ _ | exact .nilSl _ | exact .ownSl _ _ _  | exact SV.le.ownEq (by first | rfl | (rw [et]; rfl)) | exact SV.le.of_eq (by first | rfl | (rw [et]; rfl))) (Slots.cons rfl (by first | exact .refl _ | exact .nilOwn _ _ | exact .nilSl _ | exact .ownSl _ _ _  | exact SV.le.ownEq (by first | rfl | (rw [et]; rfl)) | exact SV.le.of_eq (by first | rfl | (rw [et]; rfl))) (Slots.cons rfl (by first | exact .refl _ | exact .nilOwn _ _ | exact .nilSl _ | exact .ownSl _ _ _  | exact SV.le.ownEq (by first | rfl | (rw [et]; rfl)) | exact SV.le.of_eq (by first | rfl | (rw [et]; rfl))) (Slots.cons rfl (by first | exact .refl _ | exact .nilOwn _ _ | exact .nilSl _ | exact .ownSl _ _ _  | exact SV.le.ownEq (by first | rfl | (rw [et]; rfl)) | exact SV.le.of_eq (by first | rfl | (rw [et]; rfl))) (Slots.cons rfl (by first | exact .refl _ | exact .nilOwn _ _ | exact .nilSl _ | exact .ownSl _ _ _  | exact SV.le.ownEq (by first | rfl | (rw [et]; rfl)) | exact SV.le.of_eq (by first | rfl | (rw [et]; rfl))) (Slots.cons rfl (by first | exact .refl _ | exact .nilOwn _ _ | exact .nilSl _ | exact .ownSl _ _ _  | exact SV.le.ownEq (by first | rfl | (rw [et]; rfl)) | exact SV.le.of_eq (by first | rfl | (rw [et]; rfl))) (Slots.cons rfl (by first | exact .refl _ | exact .nilOwn _ _ | exact .nilSl _ | exact .ownSl _ _ _  | exact SV.le.ownEq (by first | rfl | (rw [et]; rfl)) | exact SV.le.of_eq (by first | rfl | (rw [et]; rfl))) (Slots.cons rfl (by first | exact .refl _ | exact .nilOwn _ _ | exact .nilSl _ | exact .ownSl _ _ _  | exact SV.le.ownEq (by first | rfl | (rw [et]; rfl)) | exact SV.le.of_eq (by first | rfl | (rw [et]; rfl))) (Slots.cons rfl (by first | exact .refl _ | exact .nilOwn _ _ | exact .nilSl _ | exact .ownSl _ _ _  | exact SV.le.ownEq (by first | rfl | (rw [et]; rfl)) | exact SV.le.of_eq (by first | rfl | (rw [et]; rfl))) Slots.nil)))))))))), (by first | exact List.Sublist.refl _ | exact .cons_cons _ (.cons _ (.refl _)) | exact List.nil_sublist _ | exact .cons _ (.refl _) | exact .cons _ (.cons _ (.refl _)) | exact .cons _ (.cons _ (.cons _ (.refl _))) | exact .cons _ (.cons _ (.cons _ (.cons _ (.refl _)))) | exact .cons_cons _ (List.nil_sublist _))⟩, (by omega), ⟨j + 1, rfl, rfl, (by omega)⟩⟩
        ·
          have hge : (OfF was (at_ m).1).length ≤ j := by have := of_decide_eq_false hc3; simp at this; omega
          have hjt : (OfF was (at_ m).1).take j = OfF was (at_ m).1 := List.take_of_length_le hge
          rw [hjt]
          refine awp_exit ?_
          refine x_thenE ?_
          refine x_thenE ?_
          refine x_blockE ?_
          refine x_then ?_
          refine awp_region ?_
          refine r_move rfl rfl ?_
          refine r_assign rfl rfl ?_
          refine awl_nil ?_
          refine x_block ?_
          refine x_then ?_
          refine awp_region ?_
          refine r_ari _ rfl rfl rfl (wrap_id (by first | omega | (simp; omega))) rfl ?_
          refine r_move rfl rfl ?_
          refine awl_nil ?_
          refine x_then ?_
          refine ⟨ms.length - (k + 1), ⟨52, [(1, .a (.fn f caps)), (5, .own 5 5 (((out ++ (OfF was (at_ m).1).map (Ev.mk m))).map Ev.cs)), (6, .a (files ((at_ m).1))), (20, .a (numsA ms)), (21, .a (.v (.int .i64 ((ms.map fun m => [AV.v (.int .u64 m)]).length)))), (22, .a (.v (.int .i64 (((k + 1) : Int)))))], ((Tr nobjs))⟩, ⟨rfl, (Slots.cons rfl (by first | exact .refl _ | exact .nilOwn _ _ | exact .nilSl _ | exact .ownSl _ _ _  | exact SV.le.of_eq (by simp)) (Slots.cons rfl (by first | exact .refl _ | exact .nilOwn _ _ | exact .nilSl _ | exact .ownSl _ _ _  | exact SV.le.of_eq (by simp)) (Slots.cons rfl (by first | exact .refl _ | exact .nilOwn _ _ | exact .nilSl _ | exact .ownSl _ _ _  | exact SV.le.of_eq (by simp)) (Slots.cons rfl (by first | exact .refl _ | exact .nilOwn _ _ | exact .nilSl _ | exact .ownSl _ _ _  | exact SV.le.of_eq (by simp)) (Slots.cons rfl (by first | exact .refl _ | exact .nilOwn _ _ | exact .nilSl _ | exact .ownSl _ _ _  | exact SV.le.of_eq (by simp)) (Slots.cons rfl (by first | exact .refl _ | exact .nilOwn _ _ | exact .nilSl _ | exact .ownSl _ _ _  | exact SV.le.of_eq (by simp)) Slots.nil)))))), (by first | exact List.Sublist.refl _ | exact .cons_cons _ (.cons _ (.refl _)) | exact List.nil_sublist _ | exact .cons _ (.refl _) | exact .cons _ (.cons _ (.refl _)) | exact .cons _ (.cons _ (.cons _ (.refl _))) | exact .cons _ (.cons _ (.cons _ (.cons _ (.refl _)))) | exact .cons_cons _ (List.nil_sublist _))⟩, (by omega), ⟨k + 1, (at_ m).1, (out ++ (OfF was (at_ m).1).map (Ev.mk m)), (Tr nobjs), rfl, rfl, (by omega), hst2, hJ3, hg1, (by simp; omega)⟩⟩
    ·
      have hge : ms.length ≤ k := by have := of_decide_eq_false hc1; simp at this; omega
      obtain rfl : k = ms.length := by omega
      rw [List.take_length] at hst hJk
      refine awp_exit ?_
      refine x_thenE ?_
      refine x_thenE ?_
      refine x_blockE ?_
      refine x_then ?_
      refine awp_seq ?_
      refine awp_region ?_
      refine r_move rfl rfl ?_
      refine r_assign rfl rfl ?_
      refine awl_nil ?_
      refine x_then ?_
      refine awp_ret ?_
      exact ⟨(.inl rfl), _, os, (.one (by first | exact .mk rfl rfl | exact .nil rfl)), ⟨by rw [tlF, hrt, hst]; rfl, fun _ => hJk, fun h => (by rw [hrt] at h; cases h)⟩, (List.Sublist.refl _), (fun e he => List.all_eq_true.1 (hJ _ _ hJk) e he)⟩

theorem tlnil_ok (ms : List Int) : AC Try.prog 14 [numsA ms, .v .nilFunc] [] (fun r n => n = [] ∧ r = evsA []) := by
  refine ac_of_awp (rs := [4]) (nt := 52) Try.func14 rfl rfl rfl rfl (fun w0 C0 hq => ?_)
  refine awp_seq ?_
  refine awp_region ?_
  refine r_assign rfl rfl ?_
  refine awl_nil ?_
  refine x_then ?_
  refine awp_seq ?_
  refine awp_seq ?_
  refine awp_region ?_
  refine r_move rfl rfl ?_
  first | (refine r_fn_eq rfl TF.un26 rfl ?_) | (refine r_nofn_eq rfl TF.un26 rfl ?_)
  refine r_move rfl rfl ?_
  refine g_skip rfl rfl rfl rfl ?_
  refine g_skip rfl rfl rfl rfl ?_
  refine g_skip rfl rfl rfl rfl ?_
  refine r_pickT rfl rfl rfl rfl ?_
  refine awl_nil ?_
  refine x_then ?_
  refine awp_condT rfl ?_
  refine awp_seq ?_
  refine awp_region ?_
  refine r_assign rfl rfl ?_
  refine awl_nil ?_
  refine x_then ?_
  refine awp_ret ?_
  refine x_thenR ?_
  exact ⟨(.inl rfl), _, [], (.one (.nil (sz := 5) rfl)), ⟨rfl, rfl⟩, (List.nil_sublist _), (by simp)⟩

theorem at_en : entersT Try.prog 30 := TF.en30
/-- the events of a plain list of disks -/
theorem tlD_ok (ns : List Int) (hns : ns.length ≤ 1000) (ms : List Int) (ds : List Disk) (hml : ms.length ≤ 1000000) (hok : ∀ d ∈ ds, OkD d) : AC Try.prog 14 [numsA ns, .fn 30 [.cp [numsA ms], .cp [disksA ds]]] [] (fun r n => n = [] ∧ r = evsA (tlF ns (atF ms ds))) := by
  have h := tl_ok (atF ms ds) at_en (fun _ os => os = []) (fun a os h => by subst h; rfl) (fun a os m h _ => by subst h; exact (AW.ofAC (atc_ok ms ds hml hok m)).mono fun r n h => ⟨h.2, by rw [h.1]; rfl⟩) (good_at ms ds) ns hns (os0 := []) rfl
  exact (h.mono fun r n h => ⟨by cases hr : riseF ns with | true => exact h.2.1 hr | false => exact h.2.2 hr, h.1⟩).ac

end Go.Proofs.Ytmbfmnhcahhciaa.A

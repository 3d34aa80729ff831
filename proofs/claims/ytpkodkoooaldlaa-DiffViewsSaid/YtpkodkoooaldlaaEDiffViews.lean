import Derived.WalkKit
import Derived.Below
import Derived.Laws.Rows
import Derived.Laws.CopyRow
import Derived.Laws.AppendOwn
import Derived.RangeFuncLeaves
import Derived.RangeFuncSeq
import Derived.RangeFuncCalls
import Derived.MapKept
import Derived.Orders
import Derived.Laws.IdiomStrings
import Derived.Laws.BytesArg
import Derived.Shelf.SlIter.Nil
import Derived.RangeFuncBound
import Derived.Maps.RangeRun
import Derived.DeepKeys3
import Derived.Laws.StructEq
import Derived.Shelf.SlSortCmp.NoneTotal
import Derived.ChangeKeysEq
import Derived.Laws.MakeOwn
import Derived.ChangeArms
import Derived.ChangeOld
import Derived.Laws.DeepStrings4
import Derived.OpenShut
import Derived.Test.YtpkodkoooaldlaaProg
import Derived.KernelRfl
import Derived.OrdersIn
import Derived.Lib.AppendZeros
import Derived.Lib.AppendZerosOnto
import Derived.Lib.Overlaps
import Derived.Deep.AppendSrc
import Derived.Scope
import Derived.Shelf.SlGeneric
import Derived.Ground.SlsfProg
import Derived.Ground.SlmcProg
import Derived.Shelf.SlMaps.Clone
import Derived.Test.YtpkodkoooaldlaaM6
namespace Go.Proofs.Ytpkodkoooaldlaa.A
open Go Go.RowKit
set_option linter.unusedVariables false
set_option linter.unusedSimpArgs false
theorem allG_get {α : Type} (f : Nat → Nat → Option α) {m n vol blk : Nat} {e : α} (h1 : vol < m) (h2 : blk < n) (he : f vol blk = some e) : (allG f m n)[(allG f vol n ++ rowG f vol blk).length]? = some e := by
  obtain ⟨r, hr⟩ := allG_split f h1 h2 he
  rw [hr]; simp
theorem rowG_len {α : Type} (f : Nat → Nat → Option α) (vol n : Nat) : (rowG f vol n).length ≤ n := by
  unfold rowG; exact Nat.le_trans (List.length_filterMap_le _ _) (by simp)
theorem allG_len {α : Type} (f : Nat → Nat → Option α) : ∀ (m n : Nat), (allG f m n).length ≤ m * n
  | 0, n => by simp [allG]
  | m + 1, n => by rw [allG_succ, List.length_append, Nat.add_mul, Nat.one_mul]; have := allG_len f m n; have := rowG_len f m n; omega
theorem chgV_eq {x : List It} {L : List St} {y : List It} {K : List St} {vol blk : Nat} (h : (numV x L vol blk).getD 0 = (numV y K vol blk).getD 0) : chgV x L y K vol blk = none := if_pos h
theorem chgV_ne {x : List It} {L : List St} {y : List It} {K : List St} {vol blk : Nat} (h : ¬ (numV x L vol blk).getD 0 = (numV y K vol blk).getD 0) : chgV x L y K vol blk = some ⟨vol, blk, (numV x L vol blk).getD 0, (numV y K vol blk).getD 0⟩ := if_neg h
end Go.Proofs.Ytpkodkoooaldlaa.A
namespace Go.Proofs.Ytpkodkoooaldlaa.A
open Go Go.RowKit
set_option linter.unusedVariables false
set_option linter.unusedSimpArgs false
set_option maxRecDepth 100000
theorem TW.un23 : Try.prog.underlying 23 = some (.array 2 5) := by kernel_rfl
set_option maxHeartbeats 2000000 in
theorem views_walk (l : List FA) (hok : ∀ a ∈ l, a.ok) (i0 i1 a0 a1 vv bb : Nat) (h0 : i0 < 256 ∧ i1 < 256 ∧ a0 < 256 ∧ a1 < 256 ∧ vv < 256 ∧ bb < 256) : AC Try.prog 3 [.sl 5 (l.map FA.cs), .agg [.v (.int .u8 (i0 : Int)), .v (.int .u8 (i1 : Int))], .agg [.v (.int .u8 (a0 : Int)), .v (.int .u8 (a1 : Int))], .v (.int .u8 (vv : Int)), .v (.int .u8 (bb : Int))] [] (fun r n => n = [] ∧ r = boolA true) := by
 refine ac_of_awp (rs := [10]) (nt := 129) Try.func3 rfl rfl rfl rfl (fun w0 C0 hq => ?_)
 refine awp_seq ?_
 refine awp_region ?_
 refine r_box rfl rfl rfl (fun b6 => ?_)
 refine r_box rfl rfl rfl (fun b7 => ?_)
 refine r_assign rfl rfl ?_
 refine awl_nil ?_
 refine x_then ?_
 refine awp_seq ?_
 refine awp_seq ?_
 refine awp_region ?_
 refine r_call0 hq rfl rfl .nil (awake_ok) rfl TW.en7 rfl (fun r hr => ?_)
 obtain rfl := hr
 refine r_not rfl rfl ?_
 refine awl_nil ?_
 refine x_then ?_
 refine awp_cond rfl (fun hc0 => ?_) (fun hc0 => ?_)
 ·
  exfalso; exact absurd hc0 (by decide)
 ·
  refine awp_skip ?_
  refine x_then ?_
  refine awp_seq ?_
  refine awp_seq ?_
  refine awp_region ?_
  refine r_move rfl rfl ?_
  first | (refine r_lenS rfl rfl TW.sl22 rfl ?_) | (refine r_lenNil rfl TW.sl22 rfl ?_) | (refine r_lenV rfl TW.sl22 rfl ?_)
  refine r_cmp rfl rfl rfl rfl ?_
  refine awl_nil ?_
  refine x_then ?_
  refine awp_cond rfl (fun hc1 => ?_) (fun hc1 => ?_)
  ·
   refine awp_seq ?_
   refine awp_region ?_
   refine r_assign rfl rfl ?_
   refine awl_nil ?_
   refine x_then ?_
   refine awp_ret ?_
   refine x_thenR ?_
   exact ⟨(.inl rfl), _, [], (.one (by first | exact .mk rfl rfl | exact .nil rfl)), ⟨rfl, by first | rfl | (rw [hve, List.length_map, beq_self_eq_true]; rfl)⟩, (List.nil_sublist _), (by simp)⟩
  ·
   have hl_l : l.length ≤ 40 := by have := of_decide_eq_false hc1; simp at this; omega
   refine awp_skip ?_
   refine x_then ?_
   refine awp_seq ?_
   refine awp_region ?_
   refine r_move rfl rfl ?_
   refine r_callO hq rfl rfl (.cons (.ev rfl rfl) .nil) (laid_ok l hok (by omega)) rfl TW.en8 (List.nil_sublist _) rfl (fun r nobjs hr => ?_)
   obtain ⟨g, gf, t0, X, F, rfl, rfl, hL⟩ := hr
   obtain ⟨⟨rt, nn⟩, rfl⟩ := hL.idx.so
   have hXs := hL.idx.good.st
   have hG := hL.idx.good
   refine r_move rfl rfl ?_
   refine r_extract rfl rfl rfl ?_
   refine r_extract rfl rfl rfl ?_
   refine r_assign rfl rfl ?_
   refine r_assign rfl rfl ?_
   refine awl_nil ?_
   refine x_then ?_
   refine awp_seq ?_
   refine awp_region ?_
   refine r_move rfl rfl ?_
   refine r_move rfl rfl ?_
   refine r_indexArrB rfl rfl TW.un23 TW.sz5 (by decide) (by decide) rfl ?_
   first | (refine r_load1b 0 rfl rfl rfl TW.agg5 rfl ?_) | (refine r_load1 rfl TW.agg5 rfl ?_) | (refine r_load1b 1 rfl rfl rfl TW.agg5 rfl ?_) | (refine r_load1b 2 rfl rfl rfl TW.agg5 rfl ?_) | (refine r_load1b 3 rfl rfl rfl TW.agg5 rfl ?_)
   refine r_conv ((i0 : Nat) : Int) rfl TW.un5 TW.un3 (wrap_id (by omega)) rfl ?_
   refine r_div ((i0 % 3 : Nat) : Int) rfl rfl (rem_some (by omega)) (by rw [Int.tmod_eq_emod_of_nonneg (by omega)]; omega) rfl ?_
   refine r_indexArrB rfl rfl TW.un23 TW.sz5 (by decide) (by decide) rfl ?_
   first | (refine r_load1b 0 rfl rfl rfl TW.agg5 rfl ?_) | (refine r_load1 rfl TW.agg5 rfl ?_) | (refine r_load1b 1 rfl rfl rfl TW.agg5 rfl ?_) | (refine r_load1b 2 rfl rfl rfl TW.agg5 rfl ?_) | (refine r_load1b 3 rfl rfl rfl TW.agg5 rfl ?_)
   refine r_conv ((a0 : Nat) : Int) rfl TW.un5 TW.un31 (wrap_u64 (by omega)) rfl ?_
   refine r_callO hq rfl rfl (.cons (.ev rfl rfl) (.cons (.ev rfl rfl) (.cons (.ev rfl rfl) (.cons (.ev rfl rfl) .nil)))) (viewNew_ok' (rt, nn) F hL.fo (i0 % 3) (by omega) (a0 : Int) g gf true true) rfl TW.en9 ((.cons_cons _ (.cons_cons _ (List.nil_sublist _)))) rfl (fun r nobjs hr => ?_)
   obtain ⟨rfl, hr⟩ := hr
   rcases hr with ⟨hok1, rfl⟩ | ⟨hok1, rfl⟩
   ·
    refine r_move rfl rfl ?_
    refine r_extract rfl rfl rfl ?_
    refine r_extract rfl rfl rfl ?_
    refine r_alloc TW.zero33 rfl (fun b13 => ?_)
    first | (refine r_store 0 rfl rfl rfl TW.sz33 rfl rfl rfl ?_) | (refine r_store 1 rfl rfl rfl TW.sz33 rfl rfl rfl ?_) | (refine r_store 2 rfl rfl rfl TW.sz33 rfl rfl rfl ?_) | (refine r_store 3 rfl rfl rfl TW.sz33 rfl rfl rfl ?_) | (refine r_store 4 rfl rfl rfl TW.sz33 rfl rfl rfl ?_)
    refine r_assign rfl rfl ?_
    refine awl_nil ?_
    refine x_then ?_
    refine awp_seq ?_
    refine awp_region ?_
    refine r_move rfl rfl ?_
    refine r_move rfl rfl ?_
    refine r_indexArrB rfl rfl TW.un23 TW.sz5 (by decide) (by decide) rfl ?_
    first | (refine r_load1b 0 rfl rfl rfl TW.agg5 rfl ?_) | (refine r_load1 rfl TW.agg5 rfl ?_) | (refine r_load1b 1 rfl rfl rfl TW.agg5 rfl ?_) | (refine r_load1b 2 rfl rfl rfl TW.agg5 rfl ?_) | (refine r_load1b 3 rfl rfl rfl TW.agg5 rfl ?_) | (refine r_load1b 4 rfl rfl rfl TW.agg5 rfl ?_)
    refine r_conv ((i1 : Nat) : Int) rfl TW.un5 TW.un3 (wrap_id (by omega)) rfl ?_
    refine r_div ((i1 % 3 : Nat) : Int) rfl rfl (rem_some (by omega)) (by rw [Int.tmod_eq_emod_of_nonneg (by omega)]; omega) rfl ?_
    refine r_indexArrB rfl rfl TW.un23 TW.sz5 (by decide) (by decide) rfl ?_
    first | (refine r_load1b 0 rfl rfl rfl TW.agg5 rfl ?_) | (refine r_load1 rfl TW.agg5 rfl ?_) | (refine r_load1b 1 rfl rfl rfl TW.agg5 rfl ?_) | (refine r_load1b 2 rfl rfl rfl TW.agg5 rfl ?_) | (refine r_load1b 3 rfl rfl rfl TW.agg5 rfl ?_) | (refine r_load1b 4 rfl rfl rfl TW.agg5 rfl ?_)
    refine r_conv ((a1 : Nat) : Int) rfl TW.un5 TW.un31 (wrap_u64 (by omega)) rfl ?_
    refine r_callO hq rfl rfl (.cons (.ev rfl rfl) (.cons (.ev rfl rfl) (.cons (.ev rfl rfl) (.cons (.ev rfl rfl) .nil)))) (viewNew_ok' (rt, nn) F hL.fo (i1 % 3) (by omega) (a1 : Int) g gf true true) rfl TW.en9 ((.cons _ (.cons_cons _ (.cons_cons _ (List.nil_sublist _))))) rfl (fun r nobjs hr => ?_)
    obtain ⟨rfl, hr⟩ := hr
    rcases hr with ⟨hok2, rfl⟩ | ⟨hok2, rfl⟩
    ·
     obtain ⟨L1, hL1⟩ : ∃ L, L = lineF F (i0 % 3) (a0 : Int) := ⟨_, rfl⟩
     obtain ⟨L2, hL2⟩ : ∃ L, L = lineF F (i1 % 3) (a1 : Int) := ⟨_, rfl⟩
     rw [← hL1, ← hL2]
     have hl1 : L1.length ≤ 1000 := by rw [hL1]; exact lineF_len _ _ _
     have hl2 : L2.length ≤ 1000 := by rw [hL2]; exact lineF_len _ _ _
     have hDl : (allG (chgV X L1 X L2) (vv % 4) (bb % 7)).length ≤ 18 := Nat.le_trans (allG_len _ _ _) (Nat.le_trans (Nat.mul_le_mul (show vv % 4 ≤ 3 by omega) (show bb % 7 ≤ 6 by omega)) (by decide))
     refine r_move rfl rfl ?_
     refine r_extract rfl rfl rfl ?_
     refine r_extract rfl rfl rfl ?_
     refine r_alloc TW.zero33 rfl (fun b15 => ?_)
     first | (refine r_store 0 rfl rfl rfl TW.sz33 rfl rfl rfl ?_) | (refine r_store 1 rfl rfl rfl TW.sz33 rfl rfl rfl ?_) | (refine r_store 2 rfl rfl rfl TW.sz33 rfl rfl rfl ?_) | (refine r_store 3 rfl rfl rfl TW.sz33 rfl rfl rfl ?_) | (refine r_store 4 rfl rfl rfl TW.sz33 rfl rfl rfl ?_) | (refine r_store 5 rfl rfl rfl TW.sz33 rfl rfl rfl ?_)
     refine r_assign rfl rfl ?_
     refine awl_nil ?_
     refine x_then ?_
     refine awp_seq ?_
     refine awp_seq ?_
     refine awp_region ?_
     refine r_move rfl rfl ?_
     refine r_cmp rfl rfl rfl rfl ?_
     refine r_move rfl rfl ?_
     refine g_run rfl rfl rfl ?_
     refine r_move rfl rfl ?_
     refine g_run rfl rfl rfl ?_
     refine r_cmp rfl rfl rfl rfl ?_
     refine r_pickF rfl rfl rfl rfl ?_
     refine awl_nil ?_
     refine x_then ?_
     refine awp_cond rfl (fun hc2 => ?_) (fun hc2 => ?_)
     ·
      exfalso; exact absurd hc2 (by decide)
     ·
      refine awp_skip ?_
      refine x_then ?_
      refine awp_seq ?_
      refine awp_region ?_
      refine r_move rfl rfl ?_
      refine r_conv ((vv : Nat) : Int) rfl TW.un5 TW.un3 (wrap_id (by omega)) rfl ?_
      refine r_div ((vv % 4 : Nat) : Int) rfl rfl (rem_some (by omega)) (by rw [Int.tmod_eq_emod_of_nonneg (by omega)]; omega) rfl ?_
      refine r_move rfl rfl ?_
      refine r_conv ((bb : Nat) : Int) rfl TW.un5 TW.un3 (wrap_id (by omega)) rfl ?_
      refine r_div ((bb % 7 : Nat) : Int) rfl rfl (rem_some (by omega)) (by rw [Int.tmod_eq_emod_of_nonneg (by omega)]; omega) rfl ?_
      refine r_assign rfl rfl ?_
      refine r_assign rfl rfl ?_
      refine awl_nil ?_
      refine x_then ?_
      refine awp_seq ?_
      refine awp_region ?_
      first | (refine r_loadAb 0 rfl rfl TW.agg33 TW.sz33 rfl rfl ?_) | (refine r_loadA rfl TW.agg33 TW.sz33 rfl rfl ?_) | (refine r_loadAb 1 rfl rfl TW.agg33 TW.sz33 rfl rfl ?_) | (refine r_loadAb 2 rfl rfl TW.agg33 TW.sz33 rfl rfl ?_) | (refine r_loadAb 3 rfl rfl TW.agg33 TW.sz33 rfl rfl ?_) | (refine r_loadAb 4 rfl rfl TW.agg33 TW.sz33 rfl rfl ?_) | (refine r_loadAb 5 rfl rfl TW.agg33 TW.sz33 rfl rfl ?_)
      first | (refine r_loadAb 0 rfl rfl TW.agg33 TW.sz33 rfl rfl ?_) | (refine r_loadA rfl TW.agg33 TW.sz33 rfl rfl ?_) | (refine r_loadAb 1 rfl rfl TW.agg33 TW.sz33 rfl rfl ?_) | (refine r_loadAb 2 rfl rfl TW.agg33 TW.sz33 rfl rfl ?_) | (refine r_loadAb 3 rfl rfl TW.agg33 TW.sz33 rfl rfl ?_) | (refine r_loadAb 4 rfl rfl TW.agg33 TW.sz33 rfl rfl ?_) | (refine r_loadAb 5 rfl rfl TW.agg33 TW.sz33 rfl rfl ?_)
      refine r_move rfl rfl ?_
      refine r_move rfl rfl ?_
      refine r_call0 hq rfl rfl (.cons (.ev rfl rfl) (.cons (.ev rfl rfl) (.cons (.ev rfl rfl) (.cons (.ev rfl rfl) .nil)))) (of_ok (some (rt, nn)) X hG L1 hl1 (a0 : Int) (vv % 4) (bb % 7) (by omega) (by omega) (some (rt, nn)) X hG L2 hl2 (a1 : Int)) rfl TW.en10 rfl (fun r hr => ?_)
      obtain rfl := hr
      rw [entries_grid]
      refine r_assign rfl rfl ?_
      refine awl_nil ?_
      refine x_then ?_
      refine awp_seq ?_
      refine awp_region ?_
      refine r_assign rfl rfl ?_
      refine awl_nil ?_
      refine x_then ?_
      refine awp_seq ?_
      refine awp_seq ?_
      refine awp_region ?_
      refine r_move rfl rfl ?_
      refine r_move rfl rfl ?_
      refine awl_nil ?_
      refine x_then ?_
      refine awp_block ?_
      refine awp_loop (fun nn0 S => ∃ vol : Nat, S = ⟨129, [(13, .a (.v (.pointer (some ⟨b13, 0, none⟩)))), (15, .a (.v (.pointer (some ⟨b15, 0, none⟩)))), (17, .a (.v (.int .i64 (((vv % 4 : Nat) : Int))))), (18, .a (.v (.int .i64 (((bb % 7 : Nat) : Int))))), (19, .a (chgsA (allG (chgV X L1 X L2) (vv % 4) (bb % 7)))), (20, .a (.v (.int .i64 (((allG (chgV X L1 X L2) vol (bb % 7)).length : Nat))))), (80, .a (.v (.int .i64 (((vv % 4 : Nat) : Int))))), (81, .a (.v (.int .i64 ((vol : Int)))))], [⟨b15, true, .box [encT (some (rt, nn)), .sl 3 (L2.map St.cs), .v (.int .u64 ((a1 : Int)))]⟩, ⟨b13, true, .box [encT (some (rt, nn)), .sl 3 (L1.map St.cs), .v (.int .u64 ((a0 : Int)))]⟩]⟩ ∧ nn0 = 2 * (vv % 4 - vol) ∧ (vol ≤ vv % 4)) (2 * (vv % 4 - (0))) ⟨129, [(13, .a (.v (.pointer (some ⟨b13, 0, none⟩)))), (15, .a (.v (.pointer (some ⟨b15, 0, none⟩)))), (17, .a (.v (.int .i64 (((vv % 4 : Nat) : Int))))), (18, .a (.v (.int .i64 (((bb % 7 : Nat) : Int))))), (19, .a (chgsA (allG (chgV X L1 X L2) (vv % 4) (bb % 7)))), (20, .a (.v (.int .i64 (((allG (chgV X L1 X L2) (0) (bb % 7)).length : Nat))))), (80, .a (.v (.int .i64 (((vv % 4 : Nat) : Int))))), (81, .a (.v (.int .i64 (((0) : Int)))))], [⟨b15, true, .box [encT (some (rt, nn)), .sl 3 (L2.map St.cs), .v (.int .u64 ((a1 : Int)))]⟩, ⟨b13, true, .box [encT (some (rt, nn)), .sl 3 (L1.map St.cs), .v (.int .u64 ((a0 : Int)))]⟩]⟩ ⟨rfl, (Slots.cons rfl (by first | exact .refl _ | exact .nilOwn _ _ | exact .nilSl _ | exact .ownSl _ _ _  | exact SV.le.of_eq (by simp)) (Slots.cons rfl (by first | exact .refl _ | exact .nilOwn _ _ | exact .nilSl _ | exact .ownSl _ _ _  | exact SV.le.of_eq (by simp)) (Slots.cons rfl (by first | exact .refl _ | exact .nilOwn _ _ | exact .nilSl _ | exact .ownSl _ _ _  | exact SV.le.of_eq (by simp)) (Slots.cons rfl (by first | exact .refl _ | exact .nilOwn _ _ | exact .nilSl _ | exact .ownSl _ _ _  | exact SV.le.of_eq (by simp)) (Slots.cons rfl (by first | exact .refl _ | exact .nilOwn _ _ | exact .nilSl _ | exact .ownSl _ _ _  | exact SV.le.of_eq (by simp)) (Slots.cons rfl (by first | exact .refl _ | exact .nilOwn _ _ | exact .nilSl _ | exact .ownSl _ _ _  | exact SV.le.of_eq (by simp)) (Slots.cons rfl (by first | exact .refl _ | exact .nilOwn _ _ | exact .nilSl _ | exact .ownSl _ _ _  | exact SV.le.of_eq (by simp)) (Slots.cons rfl (by first | exact .refl _ | exact .nilOwn _ _ | exact .nilSl _ | exact .ownSl _ _ _  | exact SV.le.of_eq (by simp)) Slots.nil)))))))), ((.cons_cons _ (.cons_cons _ (List.nil_sublist _))))⟩ ⟨0, rfl, rfl, Nat.zero_le _⟩ ?_
      rintro nn0 _ ⟨vol, rfl, rfl, hvol⟩
      refine awp_seq ?_
      refine awp_region ?_
      refine r_cmp rfl rfl rfl rfl ?_
      refine awl_nil ?_
      refine x_then ?_
      refine awp_seq ?_
      refine awp_cond rfl (fun hc3 => ?_) (fun hc3 => ?_)
      ·
       have hlt : vol < vv % 4 := by have := of_decide_eq_true hc3; omega
       refine awp_skip ?_
       refine x_then ?_
       refine awp_seq ?_
       refine awp_block ?_
       refine awp_seq ?_
       refine awp_region ?_
       refine r_move rfl rfl ?_
       refine r_assign rfl rfl ?_
       refine awl_nil ?_
       refine x_then ?_
       refine awp_seq ?_
       refine awp_region ?_
       refine r_move rfl rfl ?_
       refine r_move rfl rfl ?_
       refine awl_nil ?_
       refine x_then ?_
       refine awp_block ?_
       refine awp_loop (fun nn0 S => ∃ blk : Nat, S = ⟨129, [(13, .a (.v (.pointer (some ⟨b13, 0, none⟩)))), (15, .a (.v (.pointer (some ⟨b15, 0, none⟩)))), (17, .a (.v (.int .i64 (((vv % 4 : Nat) : Int))))), (18, .a (.v (.int .i64 (((bb % 7 : Nat) : Int))))), (19, .a (chgsA (allG (chgV X L1 X L2) (vv % 4) (bb % 7)))), (20, .a (.v (.int .i64 ((((allG (chgV X L1 X L2) vol (bb % 7) ++ rowG (chgV X L1 X L2) vol blk).length : Nat) : Int))))), (21, .a (.v (.int .i64 ((vol : Int))))), (80, .a (.v (.int .i64 (((vv % 4 : Nat) : Int))))), (81, .a (.v (.int .i64 ((vol : Int))))), (84, .a (.v (.int .i64 (((bb % 7 : Nat) : Int))))), (85, .a (.v (.int .i64 ((blk : Int)))))], [⟨b15, true, .box [encT (some (rt, nn)), .sl 3 (L2.map St.cs), .v (.int .u64 ((a1 : Int)))]⟩, ⟨b13, true, .box [encT (some (rt, nn)), .sl 3 (L1.map St.cs), .v (.int .u64 ((a0 : Int)))]⟩]⟩ ∧ nn0 = bb % 7 - blk ∧ (blk ≤ bb % 7)) (bb % 7 - (0)) ⟨129, [(13, .a (.v (.pointer (some ⟨b13, 0, none⟩)))), (15, .a (.v (.pointer (some ⟨b15, 0, none⟩)))), (17, .a (.v (.int .i64 (((vv % 4 : Nat) : Int))))), (18, .a (.v (.int .i64 (((bb % 7 : Nat) : Int))))), (19, .a (chgsA (allG (chgV X L1 X L2) (vv % 4) (bb % 7)))), (20, .a (.v (.int .i64 ((((allG (chgV X L1 X L2) vol (bb % 7) ++ rowG (chgV X L1 X L2) vol (0)).length : Nat) : Int))))), (21, .a (.v (.int .i64 ((vol : Int))))), (80, .a (.v (.int .i64 (((vv % 4 : Nat) : Int))))), (81, .a (.v (.int .i64 ((vol : Int))))), (84, .a (.v (.int .i64 (((bb % 7 : Nat) : Int))))), (85, .a (.v (.int .i64 (((0) : Int)))))], [⟨b15, true, .box [encT (some (rt, nn)), .sl 3 (L2.map St.cs), .v (.int .u64 ((a1 : Int)))]⟩, ⟨b13, true, .box [encT (some (rt, nn)), .sl 3 (L1.map St.cs), .v (.int .u64 ((a0 : Int)))]⟩]⟩ ⟨rfl, (Slots.cons rfl (by first | exact .refl _ | exact .nilOwn _ _ | exact .nilSl _ | exact .ownSl _ _ _  | exact SV.le.ownEq (by (show _ = SV.a (.v (.int .i64 (((allG (chgV X L1 X L2) vol (bb % 7) ++ []).length : Nat) : Int))); rw [List.append_nil])) | exact SV.le.of_eq (by (show _ = SV.a (.v (.int .i64 (((allG (chgV X L1 X L2) vol (bb % 7) ++ []).length : Nat) : Int))); rw [List.append_nil]))) (Slots.cons rfl (by first | exact .refl _ | exact .nilOwn _ _ | exact .nilSl _ | exact .ownSl _ _ _  | exact SV.le.ownEq (by (show _ = SV.a (.v (.int .i64 (((allG (chgV X L1 X L2) vol (bb % 7) ++ []).length : Nat) : Int))); rw [List.append_nil])) | exact SV.le.of_eq (by (show _ = SV.a (.v (.int .i64 (((allG (chgV X L1 X L2) vol (bb % 7) ++ []).length : Nat) : Int))); rw [List.append_nil]))) (Slots.cons rfl (by first | exact .refl _ | exact .nilOwn _ _ | exact .nilSl _ | exact .ownSl _ _ _  | exact SV.le.ownEq (by (show _ = SV.a (.v (.int .i64 (((allG (chgV X L1 X L2) vol (bb % 7) ++ []).length : Nat) : Int))); rw [List.append_nil])) | exact SV.le.of_eq (by (show _ = SV.a (.v (.int .i64 (((allG (chgV X L1 X L2) vol (bb % 7) ++ []).length : Nat) : Int))); rw [List.append_nil]))) (Slots.cons rfl (by first | exact .refl _ | exact .nilOwn _ _ | exact .nilSl _ | exact .ownSl _ _ _  | exact SV.le.ownEq (by (show _ = SV.a (.v (.int .i64 (((allG (chgV X L1 X L2) vol (bb % 7) ++ []).length : Nat) : Int))); rw [List.append_nil])) | exact SV.le.of_eq (by (show _ = SV.a (.v (.int .i64 (((allG (chgV X L1 X L2) vol (bb % 7) ++ []).length : Nat) : Int))); rw [List.append_nil]))) (Slots.cons rfl (by first | exact .refl _ | exact .nilOwn _ _ | exact .nilSl _ | exact .ownSl _ _ _  | exact SV.le.ownEq (by (show _ = SV.a (.v (.int .i64 (((allG (chgV X L1 X L2) vol (bb % 7) ++ []).length : Nat) : Int))); rw [List.append_nil])) | exact SV.le.of_eq (by (show _ = SV.a (.v (.int .i64 (((allG (chgV X L1 X L2) vol (bb % 7) ++ []).length : Nat) : Int))); rw [List.append_nil]))) (Slots.cons rfl (by first | exact .refl _ | exact .nilOwn _ _ | exact .nilSl _ | exact .ownSl _ _ _  | exact SV.le.ownEq (by (show _ = SV.a (.v (.int .i64 (((allG (chgV X L1 X L2) vol (bb % 7) ++ []).length : Nat) : Int))); rw [List.append_nil])) | exact SV.le.of_eq (by (show _ = SV.a (.v (.int .i64 (((allG (chgV X L1 X L2) vol (bb % 7) ++ []).length : Nat) : Int))); rw [List.append_nil]))) (Slots.cons rfl (by first | exact .refl _ | exact .nilOwn _ _ | exact .nilSl _ | exact .ownSl _ _ _  | exact SV.le.ownEq (by (show _ = SV.a (.v (.int .i64 (((allG (chgV X L1 X L2) vol (bb % 7) ++ []).length : Nat) : Int))); rw [List.append_nil])) | exact SV.le.of_eq (by (show _ = SV.a (.v (.int .i64 (((allG (chgV X L1 X L2) vol (bb % 7) ++ []).length : Nat) : Int))); rw [List.append_nil]))) (Slots.cons rfl (by first | exact .refl _ | exact .nilOwn _ _ | exact .nilSl _ | exact .ownSl _ _ _  | exact SV.le.ownEq (by (show _ = SV.a (.v (.int .i64 (((allG (chgV X L1 X L2) vol (bb % 7) ++ []).length : Nat) : Int))); rw [List.append_nil])) | exact SV.le.of_eq (by (show _ = SV.a (.v (.int .i64 (((allG (chgV X L1 X L2) vol (bb % 7) ++ []).length : Nat) : Int))); rw [List.append_nil]))) (Slots.cons rfl (by first | exact .refl _ | exact .nilOwn _ _ | exact .nilSl _ | exact .ownSl _ _ _  | exact SV.le.ownEq (by (show _ = SV.a (.v (.int .i64 (((allG (chgV X L1 X L2) vol (bb % 7) ++ []).length : Nat) : Int))); rw [List.append_nil])) | exact SV.le.of_eq (by (show _ = SV.a (.v (.int .i64 (((allG (chgV X L1 X L2) vol (bb % 7) ++ []).length : Nat) : Int))); rw [List.append_nil]))) (Slots.cons rfl (by first | exact .refl _ | exact .nilOwn _ _ | exact .nilSl _ | exact .ownSl _ _ _  | exact SV.le.ownEq (by (show _ = SV.a (.v (.int .i64 (((allG (chgV X L1 X L2) vol (bb % 7) ++ []).length : Nat) : Int))); rw [List.append_nil])) | exact SV.le.of_eq (by (show _ = SV.a (.v (.int .i64 (((allG (chgV X L1 X L2) vol (bb % 7) ++ []).length : Nat) : Int))); rw [List.append_nil]))) (Slots.cons rfl (by first | exact .refl _ | exact .nilOwn _ _ | exact .nilSl _ | exact .ownSl _ _ _  | exact SV.le.ownEq (by (show _ = SV.a (.v (.int .i64 (((allG (chgV X L1 X L2) vol (bb % 7) ++ []).length : Nat) : Int))); rw [List.append_nil])) | exact SV.le.of_eq (by (show _ = SV.a (.v (.int .i64 (((allG (chgV X L1 X L2) vol (bb % 7) ++ []).length : Nat) : Int))); rw [List.append_nil]))) Slots.nil))))))))))), ((.cons_cons _ (.cons_cons _ (List.nil_sublist _))))⟩ ⟨0, rfl, rfl, Nat.zero_le _⟩ ?_
       rintro nn0 _ ⟨blk, rfl, rfl, hblk⟩
       refine awp_seq ?_
       refine awp_region ?_
       refine r_cmp rfl rfl rfl rfl ?_
       refine awl_nil ?_
       refine x_then ?_
       refine awp_seq ?_
       refine awp_cond rfl (fun hc4 => ?_) (fun hc4 => ?_)
       ·
        have hlt2 : blk < bb % 7 := by have := of_decide_eq_true hc4; omega
        refine awp_skip ?_
        refine x_then ?_
        refine awp_seq ?_
        refine awp_block ?_
        refine awp_seq ?_
        refine awp_region ?_
        refine r_move rfl rfl ?_
        refine r_assign rfl rfl ?_
        refine awl_nil ?_
        refine x_then ?_
        refine awp_seq ?_
        refine awp_region ?_
        first | (refine r_loadAb 0 rfl rfl TW.agg33 TW.sz33 rfl rfl ?_) | (refine r_loadA rfl TW.agg33 TW.sz33 rfl rfl ?_) | (refine r_loadAb 1 rfl rfl TW.agg33 TW.sz33 rfl rfl ?_)
        refine r_move rfl rfl ?_
        refine r_move rfl rfl ?_
        refine r_call0 hq rfl rfl (.cons (.ev rfl rfl) (.cons (.ev rfl rfl) (.cons (.ev rfl rfl) .nil))) (viewNum_ok (some (rt, nn)) X hG L1 hl1 (a0 : Int) vol blk) rfl TW.en11 rfl (fun r hr => ?_)
        obtain rfl := hr
        refine r_move rfl rfl ?_
        refine r_extract rfl rfl rfl ?_
        refine r_extract rfl rfl rfl ?_
        refine r_assign rfl rfl ?_
        refine r_assign rfl rfl ?_
        refine awl_nil ?_
        refine x_then ?_
        refine awp_seq ?_
        refine awp_region ?_
        first | (refine r_loadAb 0 rfl rfl TW.agg33 TW.sz33 rfl rfl ?_) | (refine r_loadA rfl TW.agg33 TW.sz33 rfl rfl ?_) | (refine r_loadAb 1 rfl rfl TW.agg33 TW.sz33 rfl rfl ?_)
        refine r_move rfl rfl ?_
        refine r_move rfl rfl ?_
        refine r_call0 hq rfl rfl (.cons (.ev rfl rfl) (.cons (.ev rfl rfl) (.cons (.ev rfl rfl) .nil))) (viewNum_ok (some (rt, nn)) X hG L2 hl2 (a1 : Int) vol blk) rfl TW.en11 rfl (fun r hr => ?_)
        obtain rfl := hr
        refine r_move rfl rfl ?_
        refine r_extract rfl rfl rfl ?_
        refine r_extract rfl rfl rfl ?_
        refine r_assign rfl rfl ?_
        refine r_assign rfl rfl ?_
        refine awl_nil ?_
        refine x_then ?_
        refine awp_seq ?_
        refine awp_seq ?_
        refine awp_region ?_
        refine r_move rfl rfl ?_
        refine r_move rfl rfl ?_
        refine r_cmp rfl rfl rfl rfl ?_
        refine awl_nil ?_
        refine x_then ?_
        refine awp_cond rfl (fun hc5 => ?_) (fun hc5 => ?_)
        ·
         have heq : ((numV X L1 vol blk).getD 0) = ((numV X L2 vol blk).getD 0) := by simpa using hc5
         have hf : (chgV X L1 X L2) vol blk = none := chgV_eq heq
         refine awp_exit ?_
         refine x_thenE ?_
         refine x_blockE ?_
         refine x_then ?_
         refine awp_region ?_
         refine r_ari _ rfl rfl rfl (wrap_id (by first | omega | (simp; omega))) rfl ?_
         refine r_move rfl rfl ?_
         refine awl_nil ?_
         refine x_then ?_
         refine ⟨bb % 7 - (blk + 1), ⟨129, [(13, .a (.v (.pointer (some ⟨b13, 0, none⟩)))), (15, .a (.v (.pointer (some ⟨b15, 0, none⟩)))), (17, .a (.v (.int .i64 (((vv % 4 : Nat) : Int))))), (18, .a (.v (.int .i64 (((bb % 7 : Nat) : Int))))), (19, .a (chgsA (allG (chgV X L1 X L2) (vv % 4) (bb % 7)))), (20, .a (.v (.int .i64 ((((allG (chgV X L1 X L2) vol (bb % 7) ++ rowG (chgV X L1 X L2) vol (blk + 1)).length : Nat) : Int))))), (21, .a (.v (.int .i64 ((vol : Int))))), (80, .a (.v (.int .i64 (((vv % 4 : Nat) : Int))))), (81, .a (.v (.int .i64 ((vol : Int))))), (84, .a (.v (.int .i64 (((bb % 7 : Nat) : Int))))), (85, .a (.v (.int .i64 (((blk + 1) : Int)))))], [⟨b15, true, .box [encT (some (rt, nn)), .sl 3 (L2.map St.cs), .v (.int .u64 ((a1 : Int)))]⟩, ⟨b13, true, .box [encT (some (rt, nn)), .sl 3 (L1.map St.cs), .v (.int .u64 ((a0 : Int)))]⟩]⟩, ⟨rfl, (Slots.cons rfl (by first | exact .refl _ | exact .nilOwn _ _ | exact .nilSl _ | exact .ownSl _ _ _  | exact SV.le.ownEq (by (rw [rowG_succ, hf]; simp [Nat.add_assoc])) | exact SV.le.of_eq (by (rw [rowG_succ, hf]; simp [Nat.add_assoc]))) (Slots.cons rfl (by first | exact .refl _ | exact .nilOwn _ _ | exact .nilSl _ | exact .ownSl _ _ _  | exact SV.le.ownEq (by (rw [rowG_succ, hf]; simp [Nat.add_assoc])) | exact SV.le.of_eq (by (rw [rowG_succ, hf]; simp [Nat.add_assoc]))) (Slots.cons rfl (by first | exact .refl _ | exact .nilOwn _ _ | exact .nilSl _ | exact .ownSl _ _ _  | exact SV.le.ownEq (by (rw [rowG_succ, hf]; simp [Nat.add_assoc])) | exact SV.le.of_eq (by (rw [rowG_succ, hf]; simp [Nat.add_assoc]))) (Slots.cons rfl (by first | exact .refl _ | exact .nilOwn _ _ | exact .nilSl _ | exact .ownSl _ _ _  | exact SV.le.ownEq (by (rw [rowG_succ, hf]; simp [Nat.add_assoc])) | exact SV.le.of_eq (by (rw [rowG_succ, hf]; simp [Nat.add_assoc]))) (Slots.cons rfl (by first | exact .refl _ | exact .nilOwn _ _ | exact .nilSl _ | exact .ownSl _ _ _  | exact SV.le.ownEq (by (rw [rowG_succ, hf]; simp [Nat.add_assoc])) | exact SV.le.of_eq (by (rw [rowG_succ, hf]; simp [Nat.add_assoc]))) (Slots.cons rfl (by first | exact .refl _ | exact .nilOwn _ _ | exact .nilSl _ | exact .ownSl _ _ _  | exact SV.le.ownEq (by (rw [rowG_succ, hf]; simp [Nat.add_assoc])) | exact SV.le.of_eq (by (rw [rowG_succ, hf]; simp [Nat.add_assoc]))) (Slots.cons rfl (by first | exact .refl _ | exact .nilOwn _ _ | exact .nilSl _ | exact .ownSl _ _ _  | exact SV.le.ownEq (by (rw [rowG_succ, hf]; simp [Nat.add_assoc])) | exact SV.le.of_eq (by (rw [rowG_succ, hf]; simp [Nat.add_assoc]))) (Slots.cons rfl (by first | exact .refl _ | exact .nilOwn _ _ | exact .nilSl _ | exact .ownSl _ _ _  | exact SV.le.ownEq (by (rw [rowG_succ, hf]; simp [Nat.add_assoc])) | exact SV.le.of_eq (by (rw [rowG_succ, hf]; simp [Nat.add_assoc]))) (Slots.cons rfl (by first | exact .refl _ | exact .nilOwn _ _ | exact .nilSl _ | exact .ownSl _ _ _  | exact SV.le.ownEq (by (rw [rowG_succ, hf]; simp [Nat.add_assoc])) | exact SV.le.of_eq (by (rw [rowG_succ, hf]; simp [Nat.add_assoc]))) (Slots.cons rfl (by first | exact .refl _ | exact .nilOwn _ _ | exact .nilSl _ | exact .ownSl _ _ _  | exact SV.le.ownEq (by (rw [rowG_succ, hf]; simp [Nat.add_assoc])) | exact SV.le.of_eq (by (rw [rowG_succ, hf]; simp [Nat.add_assoc]))) (Slots.cons rfl (by first | exact .refl _ | exact .nilOwn _ _ | exact .nilSl _ | exact .ownSl _ _ _  | exact SV.le.ownEq (by (rw [rowG_succ, hf]; simp [Nat.add_assoc])) | exact SV.le.of_eq (by (rw [rowG_succ, hf]; simp [Nat.add_assoc]))) Slots.nil))))))))))), (by first | exact List.Sublist.refl _ | exact .cons_cons _ (.cons _ (.refl _)) | exact List.nil_sublist _ | exact .cons _ (.refl _) | exact .cons _ (.cons _ (.refl _)) | exact .cons _ (.cons _ (.cons _ (.refl _))) | exact .cons _ (.cons _ (.cons _ (.cons _ (.refl _)))) | exact .cons_cons _ (List.nil_sublist _))⟩, (by omega), ⟨blk + 1, rfl, rfl, (by omega)⟩⟩
        ·
         have hne : ¬ ((numV X L1 vol blk).getD 0) = ((numV X L2 vol blk).getD 0) := by simpa using hc5
         have hf : (chgV X L1 X L2) vol blk = some ⟨vol, blk, ((numV X L1 vol blk).getD 0), ((numV X L2 vol blk).getD 0)⟩ := chgV_ne hne
         have hget := allG_get (chgV X L1 X L2) hlt hlt2 hf
         have hkl := (List.getElem?_eq_some_iff.1 hget).1
         refine awp_skip ?_
         refine x_then ?_
         refine awp_seq ?_
         refine awp_seq ?_
         refine awp_region ?_
         refine r_move rfl rfl ?_
         refine r_move rfl rfl ?_
         first | (refine r_lenS rfl rfl TW.sl37 rfl ?_) | (refine r_lenNil rfl TW.sl37 rfl ?_) | (refine r_lenV rfl TW.sl37 rfl ?_)
         refine r_cmp rfl rfl rfl rfl ?_
         refine r_move rfl rfl ?_
         refine g_run rfl rfl (decide_eq_false (by rw [List.length_map]; omega)) ?_
         refine r_move rfl rfl ?_
         refine g_run rfl rfl (decide_eq_false (by rw [List.length_map]; omega)) ?_
         refine r_move rfl rfl ?_
         refine g_run rfl rfl (decide_eq_false (by rw [List.length_map]; omega)) ?_
         refine r_index rfl rfl rfl TW.sl37 TW.sz42 (by omega) (get_map hget) rfl ?_
         refine g_run rfl rfl (decide_eq_false (by rw [List.length_map]; omega)) ?_
         first | (refine r_loadAb 0 rfl rfl TW.agg42 TW.sz42 rfl rfl ?_) | (refine r_loadA rfl TW.agg42 TW.sz42 rfl rfl ?_) | (refine r_loadAb 1 rfl rfl TW.agg42 TW.sz42 rfl rfl ?_)
         refine g_run rfl rfl (decide_eq_false (by rw [List.length_map]; omega)) ?_
         refine r_move rfl rfl ?_
         refine g_run rfl rfl (decide_eq_false (by rw [List.length_map]; omega)) ?_
         refine r_move rfl rfl ?_
         refine g_run rfl rfl (decide_eq_false (by rw [List.length_map]; omega)) ?_
         refine r_move rfl rfl ?_
         refine g_run rfl rfl (decide_eq_false (by rw [List.length_map]; omega)) ?_
         refine r_move rfl rfl ?_
         refine g_run rfl rfl (decide_eq_false (by rw [List.length_map]; omega)) ?_
         refine r_build (parts := [(0, .tmp 114), (1, .tmp 115), (2, .tmp 116), (3, .tmp 117)]) rfl TW.pl42 TW.zero42 rfl rfl rfl ?_
         refine g_run rfl rfl (decide_eq_false (by rw [List.length_map]; omega)) ?_
         refine r_sne (us := (Chg.ns ⟨vol, blk, ((numV X L1 vol blk).getD 0), ((numV X L2 vol blk).getD 0)⟩)) (vs := (Chg.ns ⟨vol, blk, ((numV X L1 vol blk).getD 0), ((numV X L2 vol blk).getD 0)⟩)) rfl rfl TW.mix42 (isVal_cells rfl) (isVal_cells rfl) rfl rfl rfl ?_
         refine r_pickF rfl (decide_eq_false (by rw [List.length_map]; omega)) rfl rfl ?_
         refine awl_nil ?_
         refine x_then ?_
         refine awp_cond rfl (fun hc6 => ?_) (fun hc6 => ?_)
         ·
          exfalso; simp at hc6
         ·
          refine awp_skip ?_
          refine x_then ?_
          refine awp_region ?_
          refine r_move rfl rfl ?_
          refine r_ari (((allG (chgV X L1 X L2) vol (bb % 7) ++ rowG (chgV X L1 X L2) vol blk).length + 1 : Nat) : Int) rfl rfl rfl (wrap_id (by omega)) rfl ?_
          refine r_assign rfl rfl ?_
          refine awl_nil ?_
          refine x_block ?_
          refine x_then ?_
          refine awp_region ?_
          refine r_ari _ rfl rfl rfl (wrap_id (by first | omega | (simp; omega))) rfl ?_
          refine r_move rfl rfl ?_
          refine awl_nil ?_
          refine x_then ?_
          refine ⟨bb % 7 - (blk + 1), ⟨129, [(13, .a (.v (.pointer (some ⟨b13, 0, none⟩)))), (15, .a (.v (.pointer (some ⟨b15, 0, none⟩)))), (17, .a (.v (.int .i64 (((vv % 4 : Nat) : Int))))), (18, .a (.v (.int .i64 (((bb % 7 : Nat) : Int))))), (19, .a (chgsA (allG (chgV X L1 X L2) (vv % 4) (bb % 7)))), (20, .a (.v (.int .i64 ((((allG (chgV X L1 X L2) vol (bb % 7) ++ rowG (chgV X L1 X L2) vol (blk + 1)).length : Nat) : Int))))), (21, .a (.v (.int .i64 ((vol : Int))))), (80, .a (.v (.int .i64 (((vv % 4 : Nat) : Int))))), (81, .a (.v (.int .i64 ((vol : Int))))), (84, .a (.v (.int .i64 (((bb % 7 : Nat) : Int))))), (85, .a (.v (.int .i64 (((blk + 1) : Int)))))], [⟨b15, true, .box [encT (some (rt, nn)), .sl 3 (L2.map St.cs), .v (.int .u64 ((a1 : Int)))]⟩, ⟨b13, true, .box [encT (some (rt, nn)), .sl 3 (L1.map St.cs), .v (.int .u64 ((a0 : Int)))]⟩]⟩, ⟨rfl, (Slots.cons rfl (by first | exact .refl _ | exact .nilOwn _ _ | exact .nilSl _ | exact .ownSl _ _ _  | exact SV.le.ownEq (by (rw [rowG_succ, hf]; simp [Nat.add_assoc])) | exact SV.le.of_eq (by (rw [rowG_succ, hf]; simp [Nat.add_assoc]))) (Slots.cons rfl (by first | exact .refl _ | exact .nilOwn _ _ | exact .nilSl _ | exact .ownSl _ _ _  | exact SV.le.ownEq (by (rw [rowG_succ, hf]; simp [Nat.add_assoc])) | exact SV.le.of_eq (by (rw [rowG_succ, hf]; simp [Nat.add_assoc]))) (Slots.cons rfl (by first | exact .refl _ | exact .nilOwn _ _ | exact .nilSl _ | exact .ownSl _ _ _  | exact SV.le.ownEq (by (rw [rowG_succ, hf]; simp [Nat.add_assoc])) | exact SV.le.of_eq (by (rw [rowG_succ, hf]; simp [Nat.add_assoc]))) (Slots.cons rfl (by first | exact .refl _ | exact .nilOwn _ _ | exact .nilSl _ | exact .ownSl _ _ _  | exact SV.le.ownEq (by (rw [rowG_succ, hf]; simp [Nat.add_assoc])) | exact SV.le.of_eq (by (rw [rowG_succ, hf]; simp [Nat.add_assoc]))) (Slots.cons rfl (by first | exact .refl _ | exact .nilOwn _ _ | exact .nilSl _ | exact .ownSl _ _ _  | exact SV.le.ownEq (by (rw [rowG_succ, hf]; simp [Nat.add_assoc])) | exact SV.le.of_eq (by (rw [rowG_succ, hf]; simp [Nat.add_assoc]))) (Slots.cons rfl (by first | exact .refl _ | exact .nilOwn _ _ | exact .nilSl _ | exact .ownSl _ _ _  | exact SV.le.ownEq (by (rw [rowG_succ, hf]; simp [Nat.add_assoc])) | exact SV.le.of_eq (by (rw [rowG_succ, hf]; simp [Nat.add_assoc]))) (Slots.cons rfl (by first | exact .refl _ | exact .nilOwn _ _ | exact .nilSl _ | exact .ownSl _ _ _  | exact SV.le.ownEq (by (rw [rowG_succ, hf]; simp [Nat.add_assoc])) | exact SV.le.of_eq (by (rw [rowG_succ, hf]; simp [Nat.add_assoc]))) (Slots.cons rfl (by first | exact .refl _ | exact .nilOwn _ _ | exact .nilSl _ | exact .ownSl _ _ _  | exact SV.le.ownEq (by (rw [rowG_succ, hf]; simp [Nat.add_assoc])) | exact SV.le.of_eq (by (rw [rowG_succ, hf]; simp [Nat.add_assoc]))) (Slots.cons rfl (by first | exact .refl _ | exact .nilOwn _ _ | exact .nilSl _ | exact .ownSl _ _ _  | exact SV.le.ownEq (by (rw [rowG_succ, hf]; simp [Nat.add_assoc])) | exact SV.le.of_eq (by (rw [rowG_succ, hf]; simp [Nat.add_assoc]))) (Slots.cons rfl (by first | exact .refl _ | exact .nilOwn _ _ | exact .nilSl _ | exact .ownSl _ _ _  | exact SV.le.ownEq (by (rw [rowG_succ, hf]; simp [Nat.add_assoc])) | exact SV.le.of_eq (by (rw [rowG_succ, hf]; simp [Nat.add_assoc]))) (Slots.cons rfl (by first | exact .refl _ | exact .nilOwn _ _ | exact .nilSl _ | exact .ownSl _ _ _  | exact SV.le.ownEq (by (rw [rowG_succ, hf]; simp [Nat.add_assoc])) | exact SV.le.of_eq (by (rw [rowG_succ, hf]; simp [Nat.add_assoc]))) Slots.nil))))))))))), (by first | exact List.Sublist.refl _ | exact .cons_cons _ (.cons _ (.refl _)) | exact List.nil_sublist _ | exact .cons _ (.refl _) | exact .cons _ (.cons _ (.refl _)) | exact .cons _ (.cons _ (.cons _ (.refl _))) | exact .cons _ (.cons _ (.cons _ (.cons _ (.refl _)))) | exact .cons_cons _ (List.nil_sublist _))⟩, (by omega), ⟨blk + 1, rfl, rfl, (by omega)⟩⟩
       ·
        have hbe : blk = bb % 7 := by have := of_decide_eq_false hc4; omega
        refine awp_exit ?_
        refine x_thenE ?_
        refine x_thenE ?_
        refine x_blockE ?_
        refine x_block ?_
        refine x_then ?_
        refine awp_region ?_
        refine r_ari _ rfl rfl rfl (wrap_id (by first | omega | (simp; omega))) rfl ?_
        refine r_move rfl rfl ?_
        refine awl_nil ?_
        refine x_then ?_
        refine ⟨2 * (vv % 4 - (vol + 1)), ⟨129, [(13, .a (.v (.pointer (some ⟨b13, 0, none⟩)))), (15, .a (.v (.pointer (some ⟨b15, 0, none⟩)))), (17, .a (.v (.int .i64 (((vv % 4 : Nat) : Int))))), (18, .a (.v (.int .i64 (((bb % 7 : Nat) : Int))))), (19, .a (chgsA (allG (chgV X L1 X L2) (vv % 4) (bb % 7)))), (20, .a (.v (.int .i64 (((allG (chgV X L1 X L2) (vol + 1) (bb % 7)).length : Nat))))), (80, .a (.v (.int .i64 (((vv % 4 : Nat) : Int))))), (81, .a (.v (.int .i64 (((vol + 1) : Int)))))], [⟨b15, true, .box [encT (some (rt, nn)), .sl 3 (L2.map St.cs), .v (.int .u64 ((a1 : Int)))]⟩, ⟨b13, true, .box [encT (some (rt, nn)), .sl 3 (L1.map St.cs), .v (.int .u64 ((a0 : Int)))]⟩]⟩, ⟨rfl, (Slots.cons rfl (by first | exact .refl _ | exact .nilOwn _ _ | exact .nilSl _ | exact .ownSl _ _ _  | exact SV.le.ownEq (by (rw [allG_succ, ← hbe])) | exact SV.le.of_eq (by (rw [allG_succ, ← hbe]))) (Slots.cons rfl (by first | exact .refl _ | exact .nilOwn _ _ | exact .nilSl _ | exact .ownSl _ _ _  | exact SV.le.ownEq (by (rw [allG_succ, ← hbe])) | exact SV.le.of_eq (by (rw [allG_succ, ← hbe]))) (Slots.cons rfl (by first | exact .refl _ | exact .nilOwn _ _ | exact .nilSl _ | exact .ownSl _ _ _  | exact SV.le.ownEq (by (rw [allG_succ, ← hbe])) | exact SV.le.of_eq (by (rw [allG_succ, ← hbe]))) (Slots.cons rfl (by first | exact .refl _ | exact .nilOwn _ _ | exact .nilSl _ | exact .ownSl _ _ _  | exact SV.le.ownEq (by (rw [allG_succ, ← hbe])) | exact SV.le.of_eq (by (rw [allG_succ, ← hbe]))) (Slots.cons rfl (by first | exact .refl _ | exact .nilOwn _ _ | exact .nilSl _ | exact .ownSl _ _ _  | exact SV.le.ownEq (by (rw [allG_succ, ← hbe])) | exact SV.le.of_eq (by (rw [allG_succ, ← hbe]))) (Slots.cons rfl (by first | exact .refl _ | exact .nilOwn _ _ | exact .nilSl _ | exact .ownSl _ _ _  | exact SV.le.ownEq (by (rw [allG_succ, ← hbe])) | exact SV.le.of_eq (by (rw [allG_succ, ← hbe]))) (Slots.cons rfl (by first | exact .refl _ | exact .nilOwn _ _ | exact .nilSl _ | exact .ownSl _ _ _  | exact SV.le.ownEq (by (rw [allG_succ, ← hbe])) | exact SV.le.of_eq (by (rw [allG_succ, ← hbe]))) (Slots.cons rfl (by first | exact .refl _ | exact .nilOwn _ _ | exact .nilSl _ | exact .ownSl _ _ _  | exact SV.le.ownEq (by (rw [allG_succ, ← hbe])) | exact SV.le.of_eq (by (rw [allG_succ, ← hbe]))) Slots.nil)))))))), (by first | exact List.Sublist.refl _ | exact .cons_cons _ (.cons _ (.refl _)) | exact List.nil_sublist _ | exact .cons _ (.refl _) | exact .cons _ (.cons _ (.refl _)) | exact .cons _ (.cons _ (.cons _ (.refl _))) | exact .cons _ (.cons _ (.cons _ (.cons _ (.refl _)))) | exact .cons_cons _ (List.nil_sublist _))⟩, (by omega), ⟨vol + 1, rfl, rfl, (by omega)⟩⟩
      ·
       have hve : vol = vv % 4 := by have := of_decide_eq_false hc3; omega
       refine awp_exit ?_
       refine x_thenE ?_
       refine x_thenE ?_
       refine x_blockE ?_
       refine x_then ?_
       refine awp_seq ?_
       refine awp_region ?_
       refine r_move rfl rfl ?_
       refine r_move rfl rfl ?_
       first | (refine r_lenS rfl rfl TW.sl37 rfl ?_) | (refine r_lenNil rfl TW.sl37 rfl ?_) | (refine r_lenV rfl TW.sl37 rfl ?_)
       refine r_cmp rfl rfl rfl rfl ?_
       refine r_assign rfl rfl ?_
       refine awl_nil ?_
       refine x_then ?_
       refine awp_ret ?_
       exact ⟨(.inl rfl), _, [], (.one (by first | exact .mk rfl rfl | exact .nil rfl)), ⟨rfl, by first | rfl | (rw [hve, List.length_map, beq_self_eq_true]; rfl)⟩, (List.nil_sublist _), (by simp)⟩
    ·
     refine r_move rfl rfl ?_
     refine r_extract rfl rfl rfl ?_
     refine r_extract rfl rfl rfl ?_
     refine r_alloc TW.zero33 rfl (fun b15 => ?_)
     first | (refine r_store 0 rfl rfl rfl TW.sz33 rfl rfl rfl ?_) | (refine r_store 1 rfl rfl rfl TW.sz33 rfl rfl rfl ?_) | (refine r_store 2 rfl rfl rfl TW.sz33 rfl rfl rfl ?_) | (refine r_store 3 rfl rfl rfl TW.sz33 rfl rfl rfl ?_) | (refine r_store 4 rfl rfl rfl TW.sz33 rfl rfl rfl ?_) | (refine r_store 5 rfl rfl rfl TW.sz33 rfl rfl rfl ?_)
     refine r_assign rfl rfl ?_
     refine awl_nil ?_
     refine x_then ?_
     refine awp_seq ?_
     refine awp_seq ?_
     refine awp_region ?_
     refine r_move rfl rfl ?_
     refine r_cmp rfl rfl rfl rfl ?_
     refine r_move rfl rfl ?_
     refine g_run rfl rfl rfl ?_
     refine r_move rfl rfl ?_
     refine g_run rfl rfl rfl ?_
     refine r_cmp rfl rfl rfl rfl ?_
     refine r_pickF rfl rfl rfl rfl ?_
     refine awl_nil ?_
     refine x_then ?_
     refine awp_cond rfl (fun hc2 => ?_) (fun hc2 => ?_)
     ·
      skip
      refine awp_seq ?_
      refine awp_region ?_
      refine r_assign rfl rfl ?_
      refine awl_nil ?_
      refine x_then ?_
      refine awp_ret ?_
      refine x_thenR ?_
      exact ⟨(.inl rfl), _, [], (.one (by first | exact .mk rfl rfl | exact .nil rfl)), ⟨rfl, by first | rfl | (rw [hve, List.length_map, beq_self_eq_true]; rfl)⟩, (List.nil_sublist _), (by simp)⟩
     ·
      exfalso; exact absurd hc2 (by decide)
   ·
    refine r_move rfl rfl ?_
    refine r_extract rfl rfl rfl ?_
    refine r_extract rfl rfl rfl ?_
    refine r_alloc TW.zero33 rfl (fun b13 => ?_)
    first | (refine r_store 0 rfl rfl rfl TW.sz33 rfl rfl rfl ?_) | (refine r_store 1 rfl rfl rfl TW.sz33 rfl rfl rfl ?_) | (refine r_store 2 rfl rfl rfl TW.sz33 rfl rfl rfl ?_) | (refine r_store 3 rfl rfl rfl TW.sz33 rfl rfl rfl ?_) | (refine r_store 4 rfl rfl rfl TW.sz33 rfl rfl rfl ?_)
    refine r_assign rfl rfl ?_
    refine awl_nil ?_
    refine x_then ?_
    refine awp_seq ?_
    refine awp_region ?_
    refine r_move rfl rfl ?_
    refine r_move rfl rfl ?_
    refine r_indexArrB rfl rfl TW.un23 TW.sz5 (by decide) (by decide) rfl ?_
    first | (refine r_load1b 0 rfl rfl rfl TW.agg5 rfl ?_) | (refine r_load1 rfl TW.agg5 rfl ?_) | (refine r_load1b 1 rfl rfl rfl TW.agg5 rfl ?_) | (refine r_load1b 2 rfl rfl rfl TW.agg5 rfl ?_) | (refine r_load1b 3 rfl rfl rfl TW.agg5 rfl ?_) | (refine r_load1b 4 rfl rfl rfl TW.agg5 rfl ?_)
    refine r_conv ((i1 : Nat) : Int) rfl TW.un5 TW.un3 (wrap_id (by omega)) rfl ?_
    refine r_div ((i1 % 3 : Nat) : Int) rfl rfl (rem_some (by omega)) (by rw [Int.tmod_eq_emod_of_nonneg (by omega)]; omega) rfl ?_
    refine r_indexArrB rfl rfl TW.un23 TW.sz5 (by decide) (by decide) rfl ?_
    first | (refine r_load1b 0 rfl rfl rfl TW.agg5 rfl ?_) | (refine r_load1 rfl TW.agg5 rfl ?_) | (refine r_load1b 1 rfl rfl rfl TW.agg5 rfl ?_) | (refine r_load1b 2 rfl rfl rfl TW.agg5 rfl ?_) | (refine r_load1b 3 rfl rfl rfl TW.agg5 rfl ?_) | (refine r_load1b 4 rfl rfl rfl TW.agg5 rfl ?_)
    refine r_conv ((a1 : Nat) : Int) rfl TW.un5 TW.un31 (wrap_u64 (by omega)) rfl ?_
    refine r_callO hq rfl rfl (.cons (.ev rfl rfl) (.cons (.ev rfl rfl) (.cons (.ev rfl rfl) (.cons (.ev rfl rfl) .nil)))) (viewNew_ok' (rt, nn) F hL.fo (i1 % 3) (by omega) (a1 : Int) g gf true true) rfl TW.en9 ((.cons _ (.cons_cons _ (.cons_cons _ (List.nil_sublist _))))) rfl (fun r nobjs hr => ?_)
    obtain ⟨rfl, hr⟩ := hr
    rcases hr with ⟨hok2, rfl⟩ | ⟨hok2, rfl⟩
    ·
     refine r_move rfl rfl ?_
     refine r_extract rfl rfl rfl ?_
     refine r_extract rfl rfl rfl ?_
     refine r_alloc TW.zero33 rfl (fun b15 => ?_)
     first | (refine r_store 0 rfl rfl rfl TW.sz33 rfl rfl rfl ?_) | (refine r_store 1 rfl rfl rfl TW.sz33 rfl rfl rfl ?_) | (refine r_store 2 rfl rfl rfl TW.sz33 rfl rfl rfl ?_) | (refine r_store 3 rfl rfl rfl TW.sz33 rfl rfl rfl ?_) | (refine r_store 4 rfl rfl rfl TW.sz33 rfl rfl rfl ?_) | (refine r_store 5 rfl rfl rfl TW.sz33 rfl rfl rfl ?_)
     refine r_assign rfl rfl ?_
     refine awl_nil ?_
     refine x_then ?_
     refine awp_seq ?_
     refine awp_seq ?_
     refine awp_region ?_
     refine r_move rfl rfl ?_
     refine r_cmp rfl rfl rfl rfl ?_
     refine r_move rfl rfl ?_
     refine g_skip rfl rfl rfl rfl ?_
     refine g_skip rfl rfl rfl rfl ?_
     refine r_pickT rfl rfl rfl rfl ?_
     refine awl_nil ?_
     refine x_then ?_
     refine awp_condT rfl ?_
     refine awp_seq ?_
     refine awp_region ?_
     refine r_assign rfl rfl ?_
     refine awl_nil ?_
     refine x_then ?_
     refine awp_ret ?_
     refine x_thenR ?_
     exact ⟨(.inl rfl), _, [], (.one (by first | exact .mk rfl rfl | exact .nil rfl)), ⟨rfl, by first | rfl | (rw [hve, List.length_map, beq_self_eq_true]; rfl)⟩, (List.nil_sublist _), (by simp)⟩
    ·
     refine r_move rfl rfl ?_
     refine r_extract rfl rfl rfl ?_
     refine r_extract rfl rfl rfl ?_
     refine r_alloc TW.zero33 rfl (fun b15 => ?_)
     first | (refine r_store 0 rfl rfl rfl TW.sz33 rfl rfl rfl ?_) | (refine r_store 1 rfl rfl rfl TW.sz33 rfl rfl rfl ?_) | (refine r_store 2 rfl rfl rfl TW.sz33 rfl rfl rfl ?_) | (refine r_store 3 rfl rfl rfl TW.sz33 rfl rfl rfl ?_) | (refine r_store 4 rfl rfl rfl TW.sz33 rfl rfl rfl ?_) | (refine r_store 5 rfl rfl rfl TW.sz33 rfl rfl rfl ?_)
     refine r_assign rfl rfl ?_
     refine awl_nil ?_
     refine x_then ?_
     refine awp_seq ?_
     refine awp_seq ?_
     refine awp_region ?_
     refine r_move rfl rfl ?_
     refine r_cmp rfl rfl rfl rfl ?_
     refine r_move rfl rfl ?_
     refine g_skip rfl rfl rfl rfl ?_
     refine g_skip rfl rfl rfl rfl ?_
     refine r_pickT rfl rfl rfl rfl ?_
     refine awl_nil ?_
     refine x_then ?_
     refine awp_condT rfl ?_
     refine awp_seq ?_
     refine awp_region ?_
     refine r_assign rfl rfl ?_
     refine awl_nil ?_
     refine x_then ?_
     refine awp_ret ?_
     refine x_thenR ?_
     exact ⟨(.inl rfl), _, [], (.one (by first | exact .mk rfl rfl | exact .nil rfl)), ⟨rfl, by first | rfl | (rw [hve, List.length_map, beq_self_eq_true]; rfl)⟩, (List.nil_sublist _), (by simp)⟩
end Go.Proofs.Ytpkodkoooaldlaa.A
namespace Go.Proofs.Ytpkodkoooaldlaa.A
open Go Go.RowKit
set_option linter.unusedVariables false
set_option linter.unusedSimpArgs false
set_option maxRecDepth 100000
theorem TR.un23 : Try.prog.underlying 23 = some (.array 2 5) := by kernel_rfl
theorem TR.sz23 : szT Try.prog 23 = some 2 := by kernel_rfl
theorem rd_arr2 {t e : TypeId} {α : Type} {E : α → List AV} {G : α → Prop} (ht : Try.prog.underlying t = some (.array 2 e)) (hsz : szT Try.prog e = some 1) (hst : szT Try.prog t = some 2) (r : RD Try.prog e E G) :
    RD Try.prog t (fun a : α × α => E a.1 ++ E a.2) (fun a => G a.1 ∧ G a.2) := by
  intro H enc W fuel cs x hx
  obtain ⟨xs, m, _, _, hl, hxl, hall⟩ := DataW.trod_array ht hx
  rw [szT_cells hst] at hl
  have key : ∀ i, i < 2 → ∃ a, G a ∧ Rels (C0 W) (E a) ((cs.drop i).take 1) ∧ (E a).all AV.one = true := by
    intro i hi
    have h := hall i hi
    rw [szT_cells hsz, Nat.mul_one, List.getElem?_eq_getElem (by omega)] at h
    exact r enc W m _ _ h
  obtain ⟨a0, g0, h0, o0⟩ := key 0 (by omega)
  obtain ⟨a1, g1, h1, o1⟩ := key 1 (by omega)
  refine ⟨⟨a0, a1⟩, ⟨g0, g1⟩, ?_, by simp only [List.all_append, o0, o1, Bool.and_self]⟩
  match cs, hl with
  | [c0, c1], _ => exact h0.append h1
theorem rd_u82 : RD Try.prog 23 (fun a : Nat × Nat => [AV.v (.int .u8 (a.1 : Int))] ++ [AV.v (.int .u8 (a.2 : Int))]) (fun a => a.1 < 256 ∧ a.2 < 256) := rd_arr2 TR.un23 TR.sz5 TR.sz23 (rd_n8 TR.un5)
theorem okWide_arr {P : Program} {w : World} {r : Reach} {base : Nat} {t : TypeId} {v : Value} {n e : Nat} (ht : P.underlying t = some (.array n e)) (h : Value.okWide P w r base t v) : ∃ cs, v = .agg cs ∧ cs.size = P.cellsOf t := by
  simp only [Value.okWide, ht] at h
  obtain ⟨cs, h1, h2, _⟩ := h
  exact ⟨cs, h1, h2⟩
end Go.Proofs.Ytpkodkoooaldlaa.A
namespace Go.Proofs.Ytpkodkoooaldlaa.A
open Go Go.RowKit
set_option linter.unusedVariables false
set_option linter.unusedSimpArgs false
set_option maxRecDepth 100000
theorem views_law (l : List FA) (hok : ∀ a ∈ l, a.ok) (i a : Nat × Nat) (hi : i.1 < 256 ∧ i.2 < 256) (ha : a.1 < 256 ∧ a.2 < 256) (v b : Int) (hv : (Lit.int .u8 v).wf = true) (hb : (Lit.int .u8 b).wf = true) : AC Try.prog 3 [.sl 5 (l.map FA.cs), .agg ([.v (.int .u8 (i.1 : Int))] ++ [.v (.int .u8 (i.2 : Int))]), .agg ([.v (.int .u8 (a.1 : Int))] ++ [.v (.int .u8 (a.2 : Int))]), .v (.int .u8 v), .v (.int .u8 b)] [] (fun r n => n = [] ∧ r = boolA true) := by
  obtain ⟨v, rfl, kv⟩ := u8_wf hv
  obtain ⟨b, rfl, kb⟩ := u8_wf hb
  exact views_walk l hok i.1 i.2 a.1 a.2 v b ⟨hi.1, hi.2, ha.1, ha.2, kv, kb⟩
end Go.Proofs.Ytpkodkoooaldlaa.A

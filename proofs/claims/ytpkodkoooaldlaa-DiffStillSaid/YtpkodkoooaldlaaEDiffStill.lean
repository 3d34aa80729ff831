import Derived.WalkKit
import Derived.Below
import Derived.Laws.Rows
import Derived.Laws.CopyRow
import Derived.Laws.AppendOwn
import Derived.RangeFuncLeaves
import Derived.RangeFuncSeq
import Derived.RangeFuncCalls
import Derived.MapKept
import Derived.Orders
import Derived.Laws.IdiomStrings
import Derived.Laws.BytesArg
import Derived.Shelf.SlIter.Nil
import Derived.RangeFuncBound
import Derived.Maps.RangeRun
import Derived.DeepKeys3
import Derived.Laws.StructEq
import Derived.Shelf.SlSortCmp.NoneTotal
import Derived.ChangeKeysEq
import Derived.Laws.MakeOwn
import Derived.ChangeArms
import Derived.ChangeOld
import Derived.Laws.DeepStrings4
import Derived.OpenShut
import Derived.Test.YtpkodkoooaldlaaProg
import Derived.KernelRfl
import Derived.OrdersIn
import Derived.Lib.AppendZeros
import Derived.Lib.AppendZerosOnto
import Derived.Lib.Overlaps
import Derived.Deep.AppendSrc
import Derived.Scope
import Derived.Shelf.SlGeneric
import Derived.Ground.SlsfProg
import Derived.Ground.SlmcProg
import Derived.Shelf.SlMaps.Clone
import Derived.Test.YtpkodkoooaldlaaM6
namespace Go.Proofs.Ytpkodkoooaldlaa.A
open Go Go.RowKit
set_option linter.unusedVariables false
set_option linter.unusedSimpArgs false
theorem top_self {x : List It} (hs : Srt x) {q : Sp} {v : Int} (hk : ∀ z ∈ x, z.1.nu ≤ q.nu) {p : Sp} (hp : samePl q p) : topN (refPut x q v) p q.nu = some q.nu := by
  have e : q = atM p q.nu := Sp.ext' hp.1 hp.2.1 hp.2.2 rfl
  refine (top_iff (srt_put' hs q v)).2 ⟨⟨(q, v), (put_mem hs).2 (.inl rfl), e⟩, Int.le_refl _, fun w ⟨z, hz, e2⟩ h => h⟩
theorem num_hit {x : List It} {m vol blk v : Int} (h : topN x ⟨0, vol, blk, 0⟩ m = some v) (hv : 0 < v) : numV x [⟨0, 0, m⟩] vol blk = some v := by
  unfold numV
  rw [h]
  exact if_pos hv
theorem allG_one {c : Chg} {pv pb : Nat} (h1 : pv < 2) (h2 : pb < 5) : allG (fun vol blk => if vol = pv ∧ blk = pb then some c else none) 2 5 = [c] := by
  rcases (show pv = 0 ∨ pv = 1 by omega) with rfl | rfl <;> rcases (show pb = 0 ∨ pb = 1 ∨ pb = 2 ∨ pb = 3 ∨ pb = 4 by omega) with rfl | rfl | rfl | rfl | rfl <;> rfl
theorem one_write {x : List It} (hs : Srt x) {n : Nat} (hk : ∀ z ∈ x, 1 ≤ z.1.nu ∧ z.1.nu ≤ n) {pv pb : Nat} (h1 : pv < 2) (h2 : pb < 5) {v : Int} :
    ∃ a, entriesF (allV x [⟨0, 0, n⟩] 2 5) (allV (refPut x ⟨0, pv, pb, (n : Int) + 1⟩ v) [⟨0, 0, (n : Int) + 1⟩] 2 5) = [⟨pv, pb, a, (n : Int) + 1⟩] := by
  refine ⟨(numV x [⟨0, 0, n⟩] pv pb).getD 0, ?_⟩
  rw [entries_grid]
  have hle : ∀ z ∈ x, z.1.nu ≤ (n : Int) := fun z hz => (hk z hz).2
  rw [← allG_one (c := ⟨pv, pb, (numV x [⟨0, 0, n⟩] pv pb).getD 0, (n : Int) + 1⟩) h1 h2]
  refine allG_congr (fun vol blk k1 k2 => ?_)
  by_cases hp : vol = pv ∧ blk = pb
  · obtain ⟨rfl, rfl⟩ := hp
    rw [if_pos ⟨rfl, rfl⟩]
    unfold chgV
    have h3 : numV (refPut x ⟨0, vol, blk, (n : Int) + 1⟩ v) [⟨0, 0, (n : Int) + 1⟩] vol blk = some ((n : Int) + 1) :=
      num_hit (top_self (q := ⟨0, vol, blk, (n : Int) + 1⟩) hs (fun z hz => by have := hle z hz; simp only; omega) ⟨rfl, rfl, rfl⟩) (by omega)
    rw [h3]
    refine if_neg ?_
    cases hv : numV x [⟨0, 0, (n : Int)⟩] vol blk with
    | none => simp; omega
    | some u => obtain ⟨z, hz, e⟩ := numV_num hs hv; have := hle z hz; simp; omega
  · rw [if_neg hp]
    unfold chgV
    have h3 : numV (refPut x ⟨0, pv, pb, (n : Int) + 1⟩ v) [⟨0, 0, (n : Int) + 1⟩] vol blk = numV x [⟨0, 0, n⟩] vol blk := by
      refine num_one ?_
      rw [top_else hs (by unfold samePl; simp only; omega)]
      exact top_late hs hle (by omega) (Int.le_refl _) _
    rw [h3]
    exact if_pos rfl
theorem still_same {x : List It} (hs : Srt x) {n : Nat} (hk : ∀ z ∈ x, 1 ≤ z.1.nu ∧ z.1.nu ≤ n) {m : Int} (hm : (n : Int) ≤ m) : entriesF (allV x [⟨0, 0, n⟩] 2 5) (allV x [⟨0, 0, m⟩] 2 5) = [] :=
  entries_same (allV_congr (fun vol blk _ _ => num_one (top_late hs (fun z hz => (hk z hz).2) (Int.le_refl _) hm _)))
theorem still_put {x : List It} (hs : Srt x) {n : Nat} (hk : ∀ z ∈ x, 1 ≤ z.1.nu ∧ z.1.nu ≤ n) {q : Sp} (hq : q.nu = (n : Int) + 1) {v : Int} : entriesF (allV x [⟨0, 0, n⟩] 2 5) (allV (refPut x q v) [⟨0, 0, n⟩] 2 5) = [] :=
  entries_same (allV_congr (fun vol blk _ _ => num_one (top_before hs (fun z hz => (hk z hz).2) (by omega) (by omega) _).symm))
end Go.Proofs.Ytpkodkoooaldlaa.A
namespace Go.Proofs.Ytpkodkoooaldlaa.A
open Go Go.RowKit
set_option linter.unusedVariables false
set_option linter.unusedSimpArgs false
set_option maxRecDepth 100000
set_option maxHeartbeats 2000000 in
theorem still_walk (l : List FA) (hok : ∀ a ∈ l, a.ok) (w : Nat) (hw : w < 256) (ac : FA) (hac : ac.ok) : AC Try.prog 4 [.sl 5 (l.map FA.cs), .v (.int .u8 (w : Int)), .agg ac.cs] [] (fun r n => n = [] ∧ r = boolA true) := by
 refine ac_of_awp (rs := [6]) (nt := 133) Try.func4 rfl rfl rfl rfl (fun w0 C0 hq => ?_)
 refine awp_seq ?_
 refine awp_region ?_
 refine r_box rfl rfl rfl (fun b5 => ?_)
 refine r_assign rfl rfl ?_
 refine awl_nil ?_
 refine x_then ?_
 refine awp_seq ?_
 refine awp_seq ?_
 refine awp_region ?_
 refine r_call0 hq rfl rfl .nil (awake_ok) rfl TW.en7 rfl (fun r hr => ?_)
 obtain rfl := hr
 refine r_not rfl rfl ?_
 refine awl_nil ?_
 refine x_then ?_
 refine awp_cond rfl (fun hc0 => ?_) (fun hc0 => ?_)
 ·
  exfalso; exact absurd hc0 (by decide)
 ·
  refine awp_skip ?_
  refine x_then ?_
  refine awp_seq ?_
  refine awp_seq ?_
  refine awp_region ?_
  refine r_move rfl rfl ?_
  first | (refine r_lenS rfl rfl TW.sl22 rfl ?_) | (refine r_lenNil rfl TW.sl22 rfl ?_) | (refine r_lenV rfl TW.sl22 rfl ?_)
  refine r_cmp rfl rfl rfl rfl ?_
  refine awl_nil ?_
  refine x_then ?_
  refine awp_cond rfl (fun hc1 => ?_) (fun hc1 => ?_)
  ·
   refine awp_seq ?_
   refine awp_region ?_
   refine r_assign rfl rfl ?_
   refine awl_nil ?_
   refine x_then ?_
   refine awp_ret ?_
   refine x_thenR ?_
   exact ⟨(.inl rfl), _, [], (.one (by first | exact .mk rfl rfl | exact .nil rfl)), ⟨rfl, by first | rfl | (rw [beq_self_eq_true]; rfl)⟩, (List.nil_sublist _), (by simp)⟩
  ·
   have hl_l : l.length ≤ 40 := by have := of_decide_eq_false hc1; simp at this; omega
   obtain ⟨ob, ov, ok_, on⟩ := hac
   refine awp_skip ?_
   refine x_then ?_
   refine awp_seq ?_
   refine awp_region ?_
   refine r_move rfl rfl ?_
   refine r_callO hq rfl rfl (.cons (.ev rfl rfl) .nil) (laid_ok l hok (by omega)) rfl TW.en8 (List.nil_sublist _) rfl (fun r nobjs hr => ?_)
   obtain ⟨g, gf, t0, X, F, rfl, rfl, hL⟩ := hr
   obtain ⟨⟨rt, nn⟩, rfl⟩ := hL.idx.so
   have hXs := hL.idx.good.st
   have hG := hL.idx.good
   refine r_move rfl rfl ?_
   refine r_extract rfl rfl rfl ?_
   refine r_extract rfl rfl rfl ?_
   refine r_assign rfl rfl ?_
   refine r_assign rfl rfl ?_
   refine awl_nil ?_
   refine x_then ?_
   refine awp_seq ?_
   refine awp_region ?_
   refine r_move rfl rfl ?_
   first | (refine r_lenS rfl rfl TW.sl22 rfl ?_) | (refine r_lenNil rfl TW.sl22 rfl ?_) | (refine r_lenV rfl TW.sl22 rfl ?_)
   refine r_conv (l.length : Int) rfl TW.un3 TW.un31 (by rw [List.length_map]; exact wrap_u64 (by omega)) rfl ?_
   refine r_assign rfl rfl ?_
   refine awl_nil ?_
   refine x_then ?_
   refine awp_seq ?_
   refine awp_region ?_
   refine r_move rfl rfl ?_
   refine r_move rfl rfl ?_
   refine r_move rfl rfl ?_
   refine r_callO hq rfl rfl (.cons (.ev rfl rfl) (.cons (.ev rfl rfl) (.cons (.ev rfl rfl) (.cons (.ev rfl rfl) .nil)))) (view0b (rt, nn) F hL.fo (l.length : Int) (by omega) g gf true true) rfl TW.en9 (.cons_cons _ (.cons_cons _ (List.nil_sublist _))) rfl (fun r nobjs hr => ?_)
   obtain ⟨rfl, rfl⟩ := hr
   refine r_move rfl rfl ?_
   refine r_extract rfl rfl rfl ?_
   refine r_extract rfl rfl rfl ?_
   refine r_alloc TW.zero33 rfl (fun b10 => ?_)
   first | (refine r_store 0 rfl rfl rfl TW.sz33 rfl rfl rfl ?_) | (refine r_store 1 rfl rfl rfl TW.sz33 rfl rfl rfl ?_) | (refine r_store 2 rfl rfl rfl TW.sz33 rfl rfl rfl ?_) | (refine r_store 3 rfl rfl rfl TW.sz33 rfl rfl rfl ?_)
   refine r_assign rfl rfl ?_
   refine awl_nil ?_
   refine x_then ?_
   refine awp_seq ?_
   refine awp_region ?_
   refine r_move rfl rfl ?_
   refine r_move rfl rfl ?_
   refine r_move rfl rfl ?_
   refine r_move rfl rfl ?_
   refine r_conv ((w : Nat) : Int) rfl TW.un5 TW.un31 (wrap_u64 (by omega)) rfl ?_
   refine r_ari ((l.length + w : Nat) : Int) rfl rfl rfl (by rw [wrap_u64 (by omega)]; omega) rfl ?_
   refine r_callO hq rfl rfl (.cons (.ev rfl rfl) (.cons (.ev rfl rfl) (.cons (.ev rfl rfl) (.cons (.ev rfl rfl) .nil)))) (view0b (rt, nn) F hL.fo ((l.length + w : Nat) : Int) (by omega) g gf true true) rfl TW.en9 (.cons _ (.cons_cons _ (.cons_cons _ (List.nil_sublist _)))) rfl (fun r nobjs hr => ?_)
   obtain ⟨rfl, rfl⟩ := hr
   refine r_move rfl rfl ?_
   refine r_extract rfl rfl rfl ?_
   refine r_extract rfl rfl rfl ?_
   refine r_alloc TW.zero33 rfl (fun b12 => ?_)
   first | (refine r_store 0 rfl rfl rfl TW.sz33 rfl rfl rfl ?_) | (refine r_store 1 rfl rfl rfl TW.sz33 rfl rfl rfl ?_) | (refine r_store 2 rfl rfl rfl TW.sz33 rfl rfl rfl ?_) | (refine r_store 3 rfl rfl rfl TW.sz33 rfl rfl rfl ?_) | (refine r_store 4 rfl rfl rfl TW.sz33 rfl rfl rfl ?_)
   refine r_assign rfl rfl ?_
   refine awl_nil ?_
   refine x_then ?_
   refine awp_cut (fun S => S = ⟨133, [(5, .a (.v (.pointer (some ⟨b5, 0, none⟩)))), (7, .a (.v (.pointer (some ⟨g, 0, none⟩)))), (8, .a (.v (.pointer (some ⟨gf, 0, none⟩)))), (9, .a (.v (.int .u64 (l.length : Int)))), (10, .a (.v (.pointer (some ⟨b10, 0, none⟩))))], [⟨b10, true, .box [encT (some (rt, nn)), .sl 3 ([⟨0, 0, (l.length : Int)⟩].map St.cs), .v (.int .u64 ((l.length : Int)))]⟩, ⟨gf, true, .box (twsA F)⟩, ⟨g, true, .box [encT (some (rt, nn))]⟩, ⟨b5, true, .box ac.cs⟩]⟩) ?_ ?_
   ·
    refine awp_seq ?_
    refine awp_region ?_
    refine r_move rfl rfl ?_
    refine r_cmp rfl rfl rfl rfl ?_
    refine r_move rfl rfl ?_
    refine g_run rfl rfl rfl ?_
    refine r_move rfl rfl ?_
    refine g_run rfl rfl rfl ?_
    refine r_cmp rfl rfl rfl rfl ?_
    refine r_pickF rfl rfl rfl rfl ?_
    refine r_move rfl rfl ?_
    refine g_run rfl rfl rfl ?_
    refine r_loadAb 1 rfl rfl TW.agg33 TW.sz33 rfl rfl ?_
    refine g_run rfl rfl rfl ?_
    refine r_loadAb 0 rfl rfl TW.agg33 TW.sz33 rfl rfl ?_
    refine g_run rfl rfl rfl ?_
    refine r_call0 hq rfl rfl (.cons (.ev rfl rfl) (.cons (.ev rfl rfl) (.cons (.ev rfl rfl) (.cons (.ev rfl rfl) .nil)))) (of_ok (some (rt, nn)) X hG [⟨0, 0, (l.length : Int)⟩] (by simp) ((l.length : Int)) 2 5 (by omega) (by omega) (some (rt, nn)) X hG [⟨0, 0, ((l.length + w : Nat) : Int)⟩] (by simp) (((l.length + w : Nat) : Int))) rfl TW.en10 rfl (fun r hr => ?_)
    obtain rfl := hr
    rw [still_same hXs hL.nums (by omega)]
    refine g_run rfl rfl rfl ?_
    first | (refine r_lenS rfl rfl TW.sl37 rfl ?_) | (refine r_lenNil rfl TW.sl37 rfl ?_) | (refine r_lenV rfl TW.sl37 rfl ?_)
    refine g_run rfl rfl rfl ?_
    refine r_cmp rfl rfl rfl rfl ?_
    refine r_pickF rfl rfl rfl rfl ?_
    refine awl_nil ?_
    refine x_then ?_
    refine awp_cond rfl (fun hc2 => ?_) (fun hc2 => ?_)
    ·
     exfalso; exact absurd hc2 (by decide)
    ·
     refine awp_skip ?_
     refine x_then ?_
     refine ⟨⟨133, [(5, .a (.v (.pointer (some ⟨b5, 0, none⟩)))), (7, .a (.v (.pointer (some ⟨g, 0, none⟩)))), (8, .a (.v (.pointer (some ⟨gf, 0, none⟩)))), (9, .a (.v (.int .u64 (l.length : Int)))), (10, .a (.v (.pointer (some ⟨b10, 0, none⟩))))], [⟨b10, true, .box [encT (some (rt, nn)), .sl 3 ([⟨0, 0, (l.length : Int)⟩].map St.cs), .v (.int .u64 ((l.length : Int)))]⟩, ⟨gf, true, .box (twsA F)⟩, ⟨g, true, .box [encT (some (rt, nn))]⟩, ⟨b5, true, .box ac.cs⟩]⟩, ⟨rfl, (Slots.cons rfl (by first | exact .refl _ | exact .nilOwn _ _ | exact .nilSl _ | exact .ownSl _ _ _  | exact SV.le.of_eq (by simp)) (Slots.cons rfl (by first | exact .refl _ | exact .nilOwn _ _ | exact .nilSl _ | exact .ownSl _ _ _  | exact SV.le.of_eq (by simp)) (Slots.cons rfl (by first | exact .refl _ | exact .nilOwn _ _ | exact .nilSl _ | exact .ownSl _ _ _  | exact SV.le.of_eq (by simp)) (Slots.cons rfl (by first | exact .refl _ | exact .nilOwn _ _ | exact .nilSl _ | exact .ownSl _ _ _  | exact SV.le.of_eq (by simp)) (Slots.cons rfl (by first | exact .refl _ | exact .nilOwn _ _ | exact .nilSl _ | exact .ownSl _ _ _  | exact SV.le.of_eq (by simp)) Slots.nil))))), (.cons _ (.cons_cons _ (.cons_cons _ (.cons_cons _ (.cons_cons _ (List.nil_sublist _))))))⟩, rfl⟩
   ·
    rintro _ ⟨rfl⟩
    refine awp_seq ?_
    refine awp_region ?_
    first | (refine r_fieldpt rfl TW.f45_2 TW.sz5 rfl ?_) | (refine r_fieldcp rfl TW.f45_2 TW.sz5 rfl ?_) | (refine r_fieldb rfl TW.f45_2 TW.sz5 rfl ?_)
    refine r_load1b 3 rfl rfl rfl TW.agg5 rfl ?_
    refine r_conv ((ac.v : Nat) : Int) rfl TW.un5 TW.un3 (wrap_id (by omega)) rfl ?_
    refine r_div ((ac.v % 2 : Nat) : Int) rfl rfl (rem_some (by omega)) (by rw [Int.tmod_eq_emod_of_nonneg (by omega)]; omega) rfl ?_
    first | (refine r_fieldpt rfl TW.f45_3 TW.sz5 rfl ?_) | (refine r_fieldcp rfl TW.f45_3 TW.sz5 rfl ?_) | (refine r_fieldb rfl TW.f45_3 TW.sz5 rfl ?_)
    refine r_load1b 3 rfl rfl rfl TW.agg5 rfl ?_
    refine r_conv ((ac.k : Nat) : Int) rfl TW.un5 TW.un3 (wrap_id (by omega)) rfl ?_
    refine r_div ((ac.k % 5 : Nat) : Int) rfl rfl (rem_some (by omega)) (by rw [Int.tmod_eq_emod_of_nonneg (by omega)]; omega) rfl ?_
    refine r_build (parts := [(1, .tmp 66), (2, .tmp 70)]) rfl TW.pl47 TW.zero47 rfl rfl rfl ?_
    refine r_alloc TW.zero47 rfl (fun b14 => ?_)
    first | (refine r_store 0 rfl rfl rfl TW.sz47 rfl rfl rfl ?_) | (refine r_store 1 rfl rfl rfl TW.sz47 rfl rfl rfl ?_) | (refine r_store 2 rfl rfl rfl TW.sz47 rfl rfl rfl ?_) | (refine r_store 3 rfl rfl rfl TW.sz47 rfl rfl rfl ?_) | (refine r_store 4 rfl rfl rfl TW.sz47 rfl rfl rfl ?_)
    refine awl_nil ?_
    refine x_then ?_
    refine awp_cut (fun S => ∃ rt2 : Rt, ∃ nn2 : Int, S = ⟨133, [(7, .a (.v (.pointer (some ⟨g, 0, none⟩)))), (8, .a (.v (.pointer (some ⟨gf, 0, none⟩)))), (9, .a (.v (.int .u64 (l.length : Int)))), (10, .a (.v (.pointer (some ⟨b10, 0, none⟩)))), (14, .a (.v (.pointer (some ⟨b14, 0, none⟩))))], [⟨g, true, .box [encT (some (rt2, nn2))]⟩, ⟨b14, true, .box ((⟨0, ((ac.v % 2 : Nat) : Int), ((ac.k % 5 : Nat) : Int), (l.length : Int) + 1⟩ : Sp).cs.take 3)⟩, ⟨b10, true, .box [encT (some (rt, nn)), .sl 3 ([⟨0, 0, (l.length : Int)⟩].map St.cs), .v (.int .u64 ((l.length : Int)))]⟩, ⟨gf, true, .box (twsA F)⟩]⟩ ∧ (Idx (some (rt2, nn2)) (refPut X (⟨0, ((ac.v % 2 : Nat) : Int), ((ac.k % 5 : Nat) : Int), (l.length : Int) + 1⟩ : Sp) ((l.length : Int) + 1)))) ?_ ?_
    ·
     refine awp_seq ?_
     refine awp_region ?_
     refine r_move rfl rfl ?_
     refine r_loadAb 0 rfl rfl TW.agg47 TW.sz47 rfl rfl ?_
     refine r_move rfl rfl ?_
     refine r_ari ((l.length : Int) + 1) rfl rfl rfl (wrap_u64 (by omega)) rfl ?_
     refine r_callW hq [false, false, false, true, false] rfl rfl (.cons (.ev rfl rfl) (.cons (.ev rfl rfl) (.cons (.ev rfl rfl) .nil))) (ixPut_ok (some (rt, nn)) X hL.idx (by have := hL.len; omega) (⟨0, ((ac.v % 2 : Nat) : Int), ((ac.k % 5 : Nat) : Int), (l.length : Int) + 1⟩ : Sp) (⟨⟨by simp only; omega, by simp only; omega⟩, ⟨by simp only; omega, by simp only; omega⟩, ⟨by simp only; omega, by simp only; omega⟩, ⟨by simp only; omega, by simp only; omega⟩⟩) (hL.free _ rfl) g) rfl TW.en12 rfl rfl (List.nil_sublist _) rfl (fun r nobjs hr => ?_)
     obtain ⟨rfl, t', rfl, hI'⟩ := hr
     obtain ⟨⟨rt2, nn2⟩, rfl⟩ := hI'.so
     refine r_cmp rfl rfl rfl rfl ?_
     refine awl_nil ?_
     refine x_then ?_
     refine awp_cond rfl (fun hc3 => ?_) (fun hc3 => ?_)
     ·
      exfalso; exact absurd hc3 (by decide)
     ·
      refine awp_skip ?_
      refine x_then ?_
      refine ⟨⟨133, [(7, .a (.v (.pointer (some ⟨g, 0, none⟩)))), (8, .a (.v (.pointer (some ⟨gf, 0, none⟩)))), (9, .a (.v (.int .u64 (l.length : Int)))), (10, .a (.v (.pointer (some ⟨b10, 0, none⟩)))), (14, .a (.v (.pointer (some ⟨b14, 0, none⟩))))], [⟨g, true, .box [encT (some ((rt2), (nn2)))]⟩, ⟨b14, true, .box ((⟨0, ((ac.v % 2 : Nat) : Int), ((ac.k % 5 : Nat) : Int), (l.length : Int) + 1⟩ : Sp).cs.take 3)⟩, ⟨b10, true, .box [encT (some (rt, nn)), .sl 3 ([⟨0, 0, (l.length : Int)⟩].map St.cs), .v (.int .u64 ((l.length : Int)))]⟩, ⟨gf, true, .box (twsA F)⟩]⟩, ⟨rfl, (Slots.cons rfl (by first | exact .refl _ | exact .nilOwn _ _ | exact .nilSl _ | exact .ownSl _ _ _  | exact SV.le.of_eq (by simp)) (Slots.cons rfl (by first | exact .refl _ | exact .nilOwn _ _ | exact .nilSl _ | exact .ownSl _ _ _  | exact SV.le.of_eq (by simp)) (Slots.cons rfl (by first | exact .refl _ | exact .nilOwn _ _ | exact .nilSl _ | exact .ownSl _ _ _  | exact SV.le.of_eq (by simp)) (Slots.cons rfl (by first | exact .refl _ | exact .nilOwn _ _ | exact .nilSl _ | exact .ownSl _ _ _  | exact SV.le.of_eq (by simp)) (Slots.cons rfl (by first | exact .refl _ | exact .nilOwn _ _ | exact .nilSl _ | exact .ownSl _ _ _  | exact SV.le.of_eq (by simp)) Slots.nil))))), (.cons_cons _ (.cons_cons _ (.cons_cons _ (.cons_cons _ (List.nil_sublist _)))))⟩, ⟨rt2, nn2, rfl, hI'⟩⟩
    ·
     rintro _ ⟨rt2, nn2, rfl, hI'⟩
     obtain ⟨cA, hone⟩ := one_write (v := (l.length : Int) + 1) hXs hL.nums (show ac.v % 2 < 2 by omega) (show ac.k % 5 < 5 by omega)
     refine awp_seq ?_
     refine awp_region ?_
     refine r_move rfl rfl ?_
     refine r_move rfl rfl ?_
     refine r_move rfl rfl ?_
     refine r_callO hq rfl rfl (.cons (.ev rfl rfl) (.cons (.ev rfl rfl) (.cons (.ev rfl rfl) (.cons (.ev rfl rfl) .nil)))) (view0a (rt2, nn2) F hL.fo (l.length : Int) (by omega) g gf true true) rfl TW.en9 (.cons_cons _ (.cons _ (.cons _ (.cons_cons _ (List.nil_sublist _))))) rfl (fun r nobjs hr => ?_)
     obtain ⟨rfl, rfl⟩ := hr
     refine r_move rfl rfl ?_
     refine r_extract rfl rfl rfl ?_
     refine r_extract rfl rfl rfl ?_
     refine r_alloc TW.zero33 rfl (fun b15 => ?_)
     first | (refine r_store 0 rfl rfl rfl TW.sz33 rfl rfl rfl ?_) | (refine r_store 1 rfl rfl rfl TW.sz33 rfl rfl rfl ?_) | (refine r_store 2 rfl rfl rfl TW.sz33 rfl rfl rfl ?_) | (refine r_store 3 rfl rfl rfl TW.sz33 rfl rfl rfl ?_) | (refine r_store 4 rfl rfl rfl TW.sz33 rfl rfl rfl ?_)
     refine r_assign rfl rfl ?_
     refine awl_nil ?_
     refine x_then ?_
     refine awp_seq ?_
     refine awp_region ?_
     refine r_move rfl rfl ?_
     refine r_move rfl rfl ?_
     refine r_move rfl rfl ?_
     refine r_ari ((l.length : Int) + 1) rfl rfl rfl (wrap_u64 (by omega)) rfl ?_
     refine r_callO hq rfl rfl (.cons (.ev rfl rfl) (.cons (.ev rfl rfl) (.cons (.ev rfl rfl) (.cons (.ev rfl rfl) .nil)))) (view0a (rt2, nn2) F hL.fo ((l.length : Int) + 1) (by omega) g gf true true) rfl TW.en9 (.cons _ (.cons_cons _ (.cons _ (.cons _ (.cons_cons _ (List.nil_sublist _)))))) rfl (fun r nobjs hr => ?_)
     obtain ⟨rfl, rfl⟩ := hr
     refine r_move rfl rfl ?_
     refine r_extract rfl rfl rfl ?_
     refine r_extract rfl rfl rfl ?_
     refine r_alloc TW.zero33 rfl (fun b17 => ?_)
     first | (refine r_store 0 rfl rfl rfl TW.sz33 rfl rfl rfl ?_) | (refine r_store 1 rfl rfl rfl TW.sz33 rfl rfl rfl ?_) | (refine r_store 2 rfl rfl rfl TW.sz33 rfl rfl rfl ?_) | (refine r_store 3 rfl rfl rfl TW.sz33 rfl rfl rfl ?_) | (refine r_store 4 rfl rfl rfl TW.sz33 rfl rfl rfl ?_) | (refine r_store 5 rfl rfl rfl TW.sz33 rfl rfl rfl ?_)
     refine r_assign rfl rfl ?_
     refine awl_nil ?_
     refine x_then ?_
     refine awp_seq ?_
     refine awp_region ?_
     refine r_loadAb 4 rfl rfl TW.agg33 TW.sz33 rfl rfl ?_
     refine r_loadAb 0 rfl rfl TW.agg33 TW.sz33 rfl rfl ?_
     refine r_call0 hq rfl rfl (.cons (.ev rfl rfl) (.cons (.ev rfl rfl) (.cons (.ev rfl rfl) (.cons (.ev rfl rfl) .nil)))) (of_ok (some (rt, nn)) X hG [⟨0, 0, (l.length : Int)⟩] (by simp) ((l.length : Int)) 2 5 (by omega) (by omega) (some (rt2, nn2)) (refPut X (⟨0, ((ac.v % 2 : Nat) : Int), ((ac.k % 5 : Nat) : Int), (l.length : Int) + 1⟩ : Sp) ((l.length : Int) + 1)) hI'.good [⟨0, 0, (l.length : Int) + 1⟩] (by simp) ((l.length : Int) + 1)) rfl TW.en10 rfl (fun r hr => ?_)
     obtain rfl := hr
     rw [hone]
     refine r_assign rfl rfl ?_
     refine awl_nil ?_
     refine x_then ?_
     refine awp_seq ?_
     refine awp_drawS [96, 97, 98, 99, 100, 101, 102, 103, 104, 105, 106, 107, 108, 109, 110, 111, 112, 113, 114, 115, 116, 117, 118, 119, 120, 121, 122, 123, 124, 125, 126, 127, 128, 129, 130] [_, _, _, _, _, _, _, _, _, _, _, _, _, _, _, _, _, _, _, _, _, _, _, _, _, _, _, _, _, _, _, _, _, _, _] [] [] TW.mixed rfl rfl rfl ⟨⟨⟨⟨⟨⟨⟨⟨⟨⟨⟨⟨⟨⟨⟨⟨⟨⟨⟨⟨⟨⟨⟨⟨⟨⟨⟨⟨⟨⟨⟨⟨⟨⟨⟨trivial
      , ⟨_, rfl, fun sl hd hr ho => by
        refine r_loadAb 4 (hr 10 _ rfl rfl rfl) rfl TW.agg33 TW.sz33 rfl rfl ?_
        exact awl_nil ⟨rfl, post_put⟩⟩⟩
      , ⟨_, rfl, fun sl hd hr ho => by
        refine r_loadAb 1 (hr 15 _ rfl rfl rfl) rfl TW.agg33 TW.sz33 rfl rfl ?_
        exact awl_nil ⟨rfl, post_put⟩⟩⟩
      , ⟨_, rfl, fun sl hd hr ho => by
        refine r_call0 hq rfl rfl (.cons (.ev (hd 0 _ rfl rfl rfl) rfl) (.cons (.ev (hd 1 _ rfl rfl rfl) rfl) (.cons (.ev rfl rfl) (.cons (.ev rfl rfl) .nil)))) (of_ok (some (rt, nn)) X hG [⟨0, 0, (l.length : Int)⟩] (by simp) ((l.length : Int)) 2 5 (by omega) (by omega) (some (rt2, nn2)) (refPut X (⟨0, ((ac.v % 2 : Nat) : Int), ((ac.k % 5 : Nat) : Int), (l.length : Int) + 1⟩ : Sp) ((l.length : Int) + 1)) hI'.good [⟨0, 0, (l.length : Int)⟩] (by simp) ((l.length : Int))) rfl TW.en10 rfl (fun r hr => ?_)
        obtain rfl := hr
        rw [still_put hXs hL.nums rfl]
        exact awl_nil ⟨rfl, post_put⟩⟩⟩
      , ⟨_, rfl, fun sl hd hr ho => by
        first | (refine r_lenS (hd 2 _ rfl rfl rfl) rfl TW.sl37 rfl ?_) | (refine r_lenNil (hd 2 _ rfl rfl rfl) TW.sl37 rfl ?_) | (refine r_lenV (hd 2 _ rfl rfl rfl) TW.sl37 rfl ?_)
        exact awl_nil ⟨rfl, post_put⟩⟩⟩
      , ⟨_, rfl, fun sl hd hr ho => by
        refine r_cmp (hd 3 _ rfl rfl rfl) rfl rfl rfl ?_
        exact awl_nil ⟨rfl, post_put⟩⟩⟩
      , ⟨_, rfl, fun sl hd hr ho => by
        refine r_move (hd 4 _ rfl rfl rfl) rfl ?_
        exact awl_nil ⟨rfl, post_put⟩⟩⟩
      , ⟨_, rfl, fun sl hd hr ho => by
        refine g_run rfl (hd 5 _ rfl rfl rfl) rfl ?_
        refine r_move (hr 19 _ rfl rfl rfl) rfl ?_
        exact awl_nil ⟨rfl, post_put⟩⟩⟩
      , ⟨_, rfl, fun sl hd hr ho => by
        refine g_run rfl (hd 5 _ rfl rfl rfl) rfl ?_
        first | (refine r_lenS (hd 6 _ rfl rfl rfl) rfl TW.sl37 rfl ?_) | (refine r_lenNil (hd 6 _ rfl rfl rfl) TW.sl37 rfl ?_) | (refine r_lenV (hd 6 _ rfl rfl rfl) TW.sl37 rfl ?_)
        exact awl_nil ⟨rfl, post_put⟩⟩⟩
      , ⟨_, rfl, fun sl hd hr ho => by
        refine g_run rfl (hd 5 _ rfl rfl rfl) rfl ?_
        refine r_cmp (hd 7 _ rfl rfl rfl) rfl rfl rfl ?_
        exact awl_nil ⟨rfl, post_put⟩⟩⟩
      , ⟨_, rfl, fun sl hd hr ho => by
        refine r_pickT (hd 5 _ rfl rfl rfl) rfl (hd 8 _ rfl rfl rfl) rfl ?_
        exact awl_nil ⟨rfl, post_put⟩⟩⟩
      , ⟨_, rfl, fun sl hd hr ho => by
        refine r_move (hd 9 _ rfl rfl rfl) rfl ?_
        exact awl_nil ⟨rfl, post_put⟩⟩⟩
      , ⟨_, rfl, fun sl hd hr ho => by
        refine g_run rfl (hd 10 _ rfl rfl rfl) rfl ?_
        refine r_move (hr 19 _ rfl rfl rfl) rfl ?_
        exact awl_nil ⟨rfl, post_put⟩⟩⟩
      , ⟨_, rfl, fun sl hd hr ho => by
        refine g_run rfl (hd 10 _ rfl rfl rfl) rfl ?_
        refine r_index (hd 11 _ rfl rfl rfl) rfl rfl TW.sl37 TW.sz42 (by decide) rfl rfl ?_
        exact awl_nil ⟨rfl, post_put⟩⟩⟩
      , ⟨_, rfl, fun sl hd hr ho => by
        refine g_run rfl (hd 10 _ rfl rfl rfl) rfl ?_
        first | (refine r_fieldpt (hd 12 _ rfl rfl rfl) TW.f42_0 TW.sz3 rfl ?_) | (refine r_fieldcp (hd 12 _ rfl rfl rfl) TW.f42_0 TW.sz3 rfl ?_) | (refine r_fieldb (hd 12 _ rfl rfl rfl) TW.f42_0 TW.sz3 rfl ?_)
        exact awl_nil ⟨rfl, post_put⟩⟩⟩
      , ⟨_, rfl, fun sl hd hr ho => by
        refine g_run rfl (hd 10 _ rfl rfl rfl) rfl ?_
        first | (refine r_load1b 0 (hd 13 _ rfl rfl rfl) rfl rfl TW.agg3 rfl ?_) | (refine r_load1 (hd 13 _ rfl rfl rfl) TW.agg3 rfl ?_) | (refine r_load1b 1 (hd 13 _ rfl rfl rfl) rfl rfl TW.agg3 rfl ?_) | (refine r_load1b 2 (hd 13 _ rfl rfl rfl) rfl rfl TW.agg3 rfl ?_) | (refine r_load1b 3 (hd 13 _ rfl rfl rfl) rfl rfl TW.agg3 rfl ?_) | (refine r_load1b 4 (hd 13 _ rfl rfl rfl) rfl rfl TW.agg3 rfl ?_) | (refine r_load1b 5 (hd 13 _ rfl rfl rfl) rfl rfl TW.agg3 rfl ?_)
        exact awl_nil ⟨rfl, post_put⟩⟩⟩
      , ⟨_, rfl, fun sl hd hr ho => by
        refine g_run rfl (hd 10 _ rfl rfl rfl) rfl ?_
        first | (refine r_fieldpt (hr 14 _ rfl rfl rfl) TW.f47_1 TW.sz3 rfl ?_) | (refine r_fieldcp (hr 14 _ rfl rfl rfl) TW.f47_1 TW.sz3 rfl ?_) | (refine r_fieldb (hr 14 _ rfl rfl rfl) TW.f47_1 TW.sz3 rfl ?_)
        exact awl_nil ⟨rfl, post_put⟩⟩⟩
      , ⟨_, rfl, fun sl hd hr ho => by
        refine g_run rfl (hd 10 _ rfl rfl rfl) rfl ?_
        refine r_load1b 3 (hd 15 _ rfl rfl rfl) rfl rfl TW.agg3 rfl ?_
        exact awl_nil ⟨rfl, post_put⟩⟩⟩
      , ⟨_, rfl, fun sl hd hr ho => by
        refine g_run rfl (hd 10 _ rfl rfl rfl) rfl ?_
        refine r_cmp (hd 14 _ rfl rfl rfl) (hd 16 _ rfl rfl rfl) rfl rfl ?_
        exact awl_nil ⟨rfl, post_put⟩⟩⟩
      , ⟨_, rfl, fun sl hd hr ho => by
        refine r_pickT (hd 10 _ rfl rfl rfl) rfl (hd 17 _ rfl rfl rfl) rfl ?_
        exact awl_nil ⟨rfl, post_put⟩⟩⟩
      , ⟨_, rfl, fun sl hd hr ho => by
        refine r_move (hd 18 _ rfl rfl rfl) rfl ?_
        exact awl_nil ⟨rfl, post_put⟩⟩⟩
      , ⟨_, rfl, fun sl hd hr ho => by
        refine g_run rfl (hd 19 _ rfl rfl rfl) (beq_self_eq_true _) ?_
        refine r_move (hr 19 _ rfl rfl rfl) rfl ?_
        exact awl_nil ⟨rfl, post_put⟩⟩⟩
      , ⟨_, rfl, fun sl hd hr ho => by
        refine g_run rfl (hd 19 _ rfl rfl rfl) (beq_self_eq_true _) ?_
        refine r_index (hd 20 _ rfl rfl rfl) rfl rfl TW.sl37 TW.sz42 (by decide) rfl rfl ?_
        exact awl_nil ⟨rfl, post_put⟩⟩⟩
      , ⟨_, rfl, fun sl hd hr ho => by
        refine g_run rfl (hd 19 _ rfl rfl rfl) (beq_self_eq_true _) ?_
        first | (refine r_fieldpt (hd 21 _ rfl rfl rfl) TW.f42_1 TW.sz3 rfl ?_) | (refine r_fieldcp (hd 21 _ rfl rfl rfl) TW.f42_1 TW.sz3 rfl ?_) | (refine r_fieldb (hd 21 _ rfl rfl rfl) TW.f42_1 TW.sz3 rfl ?_)
        exact awl_nil ⟨rfl, post_put⟩⟩⟩
      , ⟨_, rfl, fun sl hd hr ho => by
        refine g_run rfl (hd 19 _ rfl rfl rfl) (beq_self_eq_true _) ?_
        first | (refine r_load1b 0 (hd 22 _ rfl rfl rfl) rfl rfl TW.agg3 rfl ?_) | (refine r_load1 (hd 22 _ rfl rfl rfl) TW.agg3 rfl ?_) | (refine r_load1b 1 (hd 22 _ rfl rfl rfl) rfl rfl TW.agg3 rfl ?_) | (refine r_load1b 2 (hd 22 _ rfl rfl rfl) rfl rfl TW.agg3 rfl ?_) | (refine r_load1b 3 (hd 22 _ rfl rfl rfl) rfl rfl TW.agg3 rfl ?_) | (refine r_load1b 4 (hd 22 _ rfl rfl rfl) rfl rfl TW.agg3 rfl ?_) | (refine r_load1b 5 (hd 22 _ rfl rfl rfl) rfl rfl TW.agg3 rfl ?_)
        exact awl_nil ⟨rfl, post_put⟩⟩⟩
      , ⟨_, rfl, fun sl hd hr ho => by
        refine g_run rfl (hd 19 _ rfl rfl rfl) (beq_self_eq_true _) ?_
        first | (refine r_fieldpt (hr 14 _ rfl rfl rfl) TW.f47_2 TW.sz3 rfl ?_) | (refine r_fieldcp (hr 14 _ rfl rfl rfl) TW.f47_2 TW.sz3 rfl ?_) | (refine r_fieldb (hr 14 _ rfl rfl rfl) TW.f47_2 TW.sz3 rfl ?_)
        exact awl_nil ⟨rfl, post_put⟩⟩⟩
      , ⟨_, rfl, fun sl hd hr ho => by
        refine g_run rfl (hd 19 _ rfl rfl rfl) (beq_self_eq_true _) ?_
        refine r_load1b 3 (hd 24 _ rfl rfl rfl) rfl rfl TW.agg3 rfl ?_
        exact awl_nil ⟨rfl, post_put⟩⟩⟩
      , ⟨_, rfl, fun sl hd hr ho => by
        refine g_run rfl (hd 19 _ rfl rfl rfl) (beq_self_eq_true _) ?_
        refine r_cmp (hd 23 _ rfl rfl rfl) (hd 25 _ rfl rfl rfl) rfl rfl ?_
        exact awl_nil ⟨rfl, post_put⟩⟩⟩
      , ⟨_, rfl, fun sl hd hr ho => by
        refine r_pickT (hd 19 _ rfl rfl rfl) (beq_self_eq_true _) (hd 26 _ rfl rfl rfl) rfl ?_
        exact awl_nil ⟨rfl, post_put⟩⟩⟩
      , ⟨_, rfl, fun sl hd hr ho => by
        refine r_move (hd 27 _ rfl rfl rfl) rfl ?_
        exact awl_nil ⟨rfl, post_put⟩⟩⟩
      , ⟨_, rfl, fun sl hd hr ho => by
        refine g_run rfl (hd 28 _ rfl rfl rfl) (beq_self_eq_true _) ?_
        refine r_move (hr 19 _ rfl rfl rfl) rfl ?_
        exact awl_nil ⟨rfl, post_put⟩⟩⟩
      , ⟨_, rfl, fun sl hd hr ho => by
        refine g_run rfl (hd 28 _ rfl rfl rfl) (beq_self_eq_true _) ?_
        refine r_index (hd 29 _ rfl rfl rfl) rfl rfl TW.sl37 TW.sz42 (by decide) rfl rfl ?_
        exact awl_nil ⟨rfl, post_put⟩⟩⟩
      , ⟨_, rfl, fun sl hd hr ho => by
        refine g_run rfl (hd 28 _ rfl rfl rfl) (beq_self_eq_true _) ?_
        first | (refine r_fieldpt (hd 30 _ rfl rfl rfl) TW.f42_3 TW.sz31 rfl ?_) | (refine r_fieldcp (hd 30 _ rfl rfl rfl) TW.f42_3 TW.sz31 rfl ?_) | (refine r_fieldb (hd 30 _ rfl rfl rfl) TW.f42_3 TW.sz31 rfl ?_)
        exact awl_nil ⟨rfl, post_put⟩⟩⟩
      , ⟨_, rfl, fun sl hd hr ho => by
        refine g_run rfl (hd 28 _ rfl rfl rfl) (beq_self_eq_true _) ?_
        first | (refine r_load1b 0 (hd 31 _ rfl rfl rfl) rfl rfl TW.agg31 rfl ?_) | (refine r_load1 (hd 31 _ rfl rfl rfl) TW.agg31 rfl ?_) | (refine r_load1b 1 (hd 31 _ rfl rfl rfl) rfl rfl TW.agg31 rfl ?_) | (refine r_load1b 2 (hd 31 _ rfl rfl rfl) rfl rfl TW.agg31 rfl ?_) | (refine r_load1b 3 (hd 31 _ rfl rfl rfl) rfl rfl TW.agg31 rfl ?_) | (refine r_load1b 4 (hd 31 _ rfl rfl rfl) rfl rfl TW.agg31 rfl ?_) | (refine r_load1b 5 (hd 31 _ rfl rfl rfl) rfl rfl TW.agg31 rfl ?_)
        exact awl_nil ⟨rfl, post_put⟩⟩⟩
      , ⟨_, rfl, fun sl hd hr ho => by
        refine g_run rfl (hd 28 _ rfl rfl rfl) (beq_self_eq_true _) ?_
        refine r_move (hr 9 _ rfl rfl rfl) rfl ?_
        exact awl_nil ⟨rfl, post_put⟩⟩⟩
      , ⟨_, rfl, fun sl hd hr ho => by
        refine g_run rfl (hd 28 _ rfl rfl rfl) (beq_self_eq_true _) ?_
        refine r_ari ((l.length : Int) + 1) (hd 33 _ rfl rfl rfl) rfl rfl (wrap_u64 (by omega)) rfl ?_
        exact awl_nil ⟨rfl, post_put⟩⟩⟩
      (by rfl) ?_
     refine g_run rfl rfl (beq_self_eq_true _) ?_
     refine r_cmp rfl rfl rfl rfl ?_
     refine r_pickT rfl (beq_self_eq_true _) rfl rfl ?_
     refine r_assign rfl rfl ?_
     refine awl_nil ?_
     refine x_then ?_
     refine awp_ret ?_
     exact ⟨(.inl rfl), _, [], (.one (by first | exact .mk rfl rfl | exact .nil rfl)), ⟨rfl, by first | rfl | (rw [beq_self_eq_true]; rfl)⟩, (List.nil_sublist _), (by simp)⟩
end Go.Proofs.Ytpkodkoooaldlaa.A
namespace Go.Proofs.Ytpkodkoooaldlaa.A
open Go Go.RowKit
set_option linter.unusedVariables false
set_option linter.unusedSimpArgs false
set_option maxRecDepth 100000
theorem still_law (l : List FA) (hok : ∀ a ∈ l, a.ok) (w : Int) (hw : (Lit.int .u8 w).wf = true) (a : FA) (ha : a.ok) : AC Try.prog 4 [.sl 5 (l.map FA.cs), .v (.int .u8 w), .agg a.cs] [] (fun r n => n = [] ∧ r = boolA true) := by
  obtain ⟨w, rfl, kw⟩ := u8_wf hw
  exact still_walk l hok w kw a ha
end Go.Proofs.Ytpkodkoooaldlaa.A

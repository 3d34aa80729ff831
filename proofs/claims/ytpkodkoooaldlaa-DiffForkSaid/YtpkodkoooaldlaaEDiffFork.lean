import Derived.WalkKit
import Derived.Below
import Derived.Laws.Rows
import Derived.Laws.CopyRow
import Derived.Laws.AppendOwn
import Derived.RangeFuncLeaves
import Derived.RangeFuncSeq
import Derived.RangeFuncCalls
import Derived.MapKept
import Derived.Orders
import Derived.Laws.IdiomStrings
import Derived.Laws.BytesArg
import Derived.Shelf.SlIter.Nil
import Derived.RangeFuncBound
import Derived.Maps.RangeRun
import Derived.DeepKeys3
import Derived.Laws.StructEq
import Derived.Shelf.SlSortCmp.NoneTotal
import Derived.ChangeKeysEq
import Derived.Laws.MakeOwn
import Derived.ChangeArms
import Derived.ChangeOld
import Derived.Laws.DeepStrings4
import Derived.OpenShut
import Derived.Test.YtpkodkoooaldlaaProg
import Derived.KernelRfl
import Derived.OrdersIn
import Derived.Lib.AppendZeros
import Derived.Lib.AppendZerosOnto
import Derived.Lib.Overlaps
import Derived.Deep.AppendSrc
import Derived.Scope
import Derived.Shelf.SlGeneric
import Derived.Ground.SlsfProg
import Derived.Ground.SlmcProg
import Derived.Shelf.SlMaps.Clone
import Derived.Test.YtpkodkoooaldlaaM6
namespace Go.Proofs.Ytpkodkoooaldlaa.A
open Go Go.RowKit
set_option linter.unusedVariables false
set_option linter.unusedSimpArgs false
theorem line9 {F : List Tw} (h : Fo F) {at_ n m : Int} : lineF (F.set 9 ⟨true, 0, at_, n⟩) 9 m = [⟨9, n, m⟩, ⟨0, 0, at_⟩] := by
  obtain ⟨w, h1, h2, _⟩ := h.root
  have hl : 9 < F.length := by rw [h.len]; decide
  have e9 : (F.set 9 ⟨true, 0, at_, n⟩)[9]? = some ⟨true, 0, at_, n⟩ := List.getElem?_set_self hl
  have e0 : (F.set 9 ⟨true, 0, at_, n⟩)[0]? = some w := by rw [List.getElem?_set_ne (by decide)]; exact h1
  unfold lineF
  rw [e9]
  simp only [Option.getD_some, List.cons.injEq]
  refine ⟨rfl, ?_⟩
  show lineGo _ (15 + 1) 9 = _
  rw [lineGo, if_neg (by decide), e9]
  simp only [Option.getD_some, Int.toNat_zero, e0, h2]
  show _ :: lineGo _ (14 + 1) 0 = _
  rw [lineGo, if_pos rfl]
theorem okL9 {F : List Tw} (h : Fo F) {at_ n m : Int} (hm : n ≤ m) : okL (F.set 9 ⟨true, 0, at_, n⟩) 9 m = true := by
  have hl : 9 < F.length := by rw [h.len]; decide
  have e9 : (F.set 9 ⟨true, 0, at_, n⟩)[9]? = some ⟨true, 0, at_, n⟩ := List.getElem?_set_self hl
  unfold okL aliveF
  rw [e9]
  simp; omega
theorem nine_none {x : List It} (hs : Srt x) (h : ∀ z ∈ x, z.1.br ≠ 9) (vol blk m : Int) : topN x ⟨9, vol, blk, 0⟩ m = none :=
  (top_none hs).2 (fun w ⟨z, hz, e⟩ _ => h z hz (by rw [e]; rfl))
theorem num_two {x y : List It} {n at_ m m' vol blk : Int} (h9 : topN x ⟨9, vol, blk, 0⟩ m = topN y ⟨9, vol, blk, 0⟩ m') (h0 : topN x ⟨0, vol, blk, 0⟩ at_ = topN y ⟨0, vol, blk, 0⟩ at_) : numV x [⟨9, n, m⟩, ⟨0, 0, at_⟩] vol blk = numV y [⟨9, n, m'⟩, ⟨0, 0, at_⟩] vol blk := by
  unfold numV
  simp only [h9, num_one h0]
theorem fork_same {x : List It} (hs : Srt x) (h : ∀ z ∈ x, z.1.br ≠ 9) (n at_ m : Int) : entriesF (allV x [⟨0, 0, at_⟩] 2 5) (allV x [⟨9, n, m⟩, ⟨0, 0, at_⟩] 2 5) = [] :=
  entries_same (allV_congr (fun vol blk _ _ => by
    have h1 := nine_none hs h vol blk m
    have h2 : numV x [⟨9, n, m⟩, ⟨0, 0, at_⟩] vol blk = numV x [⟨0, 0, at_⟩] vol blk := by
      rw [numV]; simp only [h1]
    exact h2.symm))
theorem two_put {x : List It} {n k v : Int} (h : Two x n k) {q : Sp} (hq : q.nu = k + 1) (hn : n ≤ k) (hk0 : 0 ≤ k) : Two (refPut x q v) n (k + 1) :=
  ⟨srt_put' h.srt q v, fun z hz => by
    rcases (put_mem h.srt).1 hz with rfl | ⟨h1, _⟩
    · simp only; omega
    · have := h.le z h1; omega, fun z hz hb => by
    rcases (put_mem h.srt).1 hz with rfl | ⟨h1, _⟩
    · simp only; omega
    · exact h.new z h1 hb⟩
theorem trunk_still {x : List It} {n k v : Int} (h : Two x n k) {q : Sp} (hq : q.nu = k + 1) (hb : q.br = 9) : entriesF (allV x [⟨0, 0, k⟩] 2 5) (allV (refPut x q v) [⟨0, 0, k + 1⟩] 2 5) = [] :=
  entries_same (allV_congr (fun vol blk _ _ => num_one (by
    rw [top_else h.srt (by unfold samePl; simp only; omega)]
    exact top_late h.srt (fun z hz => (h.le z hz).2) (Int.le_refl _) (by omega) _)))
theorem nine_still {x : List It} {n at_ k v : Int} (h : Two x n k) {q : Sp} (hq : q.nu = k + 1) (hb : q.br = 0) (ha : at_ ≤ k) : entriesF (allV x [⟨9, n, k⟩, ⟨0, 0, at_⟩] 2 5) (allV (refPut x q v) [⟨9, n, k + 1⟩, ⟨0, 0, at_⟩] 2 5) = [] :=
  entries_same (allV_congr (fun vol blk _ _ => num_two (by
    rw [top_else h.srt (by unfold samePl; simp only; omega)]
    exact top_late h.srt (fun z hz => (h.le z hz).2) (Int.le_refl _) (by omega) _)
    (top_before h.srt (fun z hz => (h.le z hz).2) (by omega) (by omega) _).symm))
theorem fork9 {F : List Tw} (h : Fo F) (hd : ∀ (i : Nat) (w : Tw), 3 ≤ i → F[i]? = some w → w.alive = false) {at_ n : Int} (h0 : 0 ≤ at_) (hn : at_ < n) : forkF F 9 0 at_ n = (0, F.set 9 ⟨true, 0, at_, n⟩) := by
  obtain ⟨w, h1, h2, _⟩ := h.root
  obtain ⟨v, hv⟩ : ∃ v, F[9]? = some v := get_lt (by rw [h.len]; decide)
  have ha := hd 9 v (by decide) hv
  unfold forkF
  rw [hv, h1]
  simp only [Option.getD_some, ha, h2]
  rw [if_neg (by decide), if_neg (by unfold aliveF; simp), if_neg (by omega)]
  rfl
theorem fo_fork9 {F : List Tw} (h : Fo F) (hd : ∀ (i : Nat) (w : Tw), 3 ≤ i → F[i]? = some w → w.alive = false) {at_ n : Int} (h0 : 0 ≤ at_) (hn : at_ < n) : Fo (F.set 9 ⟨true, 0, at_, n⟩) := by
  have := fo_forkF h (i := 9) (j := 0) (by decide) (by decide) (by decide) at_ n
  rw [fork9 h hd h0 hn] at this
  exact this
theorem two_free {x : List It} {n k : Int} (h : Two x n k) (hk : 0 ≤ k) (p : Sp) (hp : p.nu = k + 1) : 0 < p.nu ∧ ∀ v, topN x p 18446744073709551615 = some v → v < p.nu :=
  ⟨by omega, fun v hv => by obtain ⟨z, hz, e, _⟩ := top_le h.srt hv; have := h.le z hz; omega⟩
end Go.Proofs.Ytpkodkoooaldlaa.A
namespace Go.Proofs.Ytpkodkoooaldlaa.A
open Go Go.RowKit
set_option linter.unusedVariables false
set_option linter.unusedSimpArgs false
set_option maxRecDepth 100000
theorem view9a (q : Rt × Int) (F : List Tw) (hF : Fo F) (AT NN : Int) (hF9 : Fo (F.set 9 ⟨true, 0, AT, NN⟩)) (m : Int) (hm : NN ≤ m) (g gf : Nat) (f f2 : Bool) : AC Try.prog 9 [.v (.pointer (some ⟨g, 0, none⟩)), .v (.pointer (some ⟨gf, 0, none⟩)), .v (.int .i64 9), .v (.int .u64 (m))] [⟨g, f, .box [encT (some q)]⟩, ⟨gf, f2, .box (twsA (F.set 9 ⟨true, 0, AT, NN⟩))⟩] (fun r n => n = [] ∧ r = .tup [viewA (some q) [⟨9, NN, m⟩, ⟨0, 0, AT⟩] m, .v (.int .i64 0)]) :=
  (viewNew_ok q _ hF9 9 (by omega) m g gf f f2).mono (fun r n ⟨h1, h2⟩ => ⟨h1, by
    rcases h2 with ⟨_, h⟩ | ⟨h, _⟩
    · rw [h, line9 hF]
    · exact absurd h (by rw [okL9 hF hm]; decide)⟩)
theorem view9b (q : Rt × Int) (F : List Tw) (hF : Fo F) (AT NN : Int) (hF9 : Fo (F.set 9 ⟨true, 0, AT, NN⟩)) (m : Int) (hm : NN ≤ m) (g gf : Nat) (f f2 : Bool) : AC Try.prog 9 [.v (.pointer (some ⟨g, 0, none⟩)), .v (.pointer (some ⟨gf, 0, none⟩)), .v (.int .i64 9), .v (.int .u64 (m))] [⟨gf, f2, .box (twsA (F.set 9 ⟨true, 0, AT, NN⟩))⟩, ⟨g, f, .box [encT (some q)]⟩] (fun r n => n = [] ∧ r = .tup [viewA (some q) [⟨9, NN, m⟩, ⟨0, 0, AT⟩] m, .v (.int .i64 0)]) :=
  (viewNew_ok' q _ hF9 9 (by omega) m g gf f f2).mono (fun r n ⟨h1, h2⟩ => ⟨h1, by
    rcases h2 with ⟨_, h⟩ | ⟨h, _⟩
    · rw [h, line9 hF]
    · exact absurd h (by rw [okL9 hF hm]; decide)⟩)
set_option maxHeartbeats 2000000 in
theorem fork_walk (l m : List FA) (hok : ∀ a ∈ l, a.ok) (hok2 : ∀ a ∈ m, a.ok) (w : Nat) (hw : w < 256) : AC Try.prog 5 [.sl 5 (l.map FA.cs), .sl 5 (m.map FA.cs), .v (.int .u8 (w : Int))] [] (fun r n => n = [] ∧ r = boolA true) := by
 refine ac_of_awp (rs := [6]) (nt := 136) Try.func5 rfl rfl rfl rfl (fun w0 C0 hq => ?_)
 refine awp_seq ?_
 refine awp_region ?_
 refine r_assign rfl rfl ?_
 refine awl_nil ?_
 refine x_then ?_
 refine awp_seq ?_
 refine awp_seq ?_
 refine awp_region ?_
 refine r_call0 hq rfl rfl .nil (awake_ok) rfl TW.en7 rfl (fun r hr => ?_)
 obtain rfl := hr
 refine r_not rfl rfl ?_
 refine awl_nil ?_
 refine x_then ?_
 refine awp_cond rfl (fun hc0 => ?_) (fun hc0 => ?_)
 ·
  exfalso; exact absurd hc0 (by decide)
 ·
  refine awp_skip ?_
  refine x_then ?_
  refine awp_seq ?_
  refine awp_seq ?_
  refine awp_region ?_
  refine r_move rfl rfl ?_
  first | (refine r_lenS rfl rfl TW.sl22 rfl ?_) | (refine r_lenNil rfl TW.sl22 rfl ?_) | (refine r_lenV rfl TW.sl22 rfl ?_)
  refine r_cmp rfl rfl rfl rfl ?_
  refine r_move rfl rfl ?_
  refine g_cases (t' := 27) rfl (fun hg27 => ?_) (fun hg27 => ?_)
  ·
   refine g_skip rfl rfl hg27 rfl ?_
   refine g_skip rfl rfl hg27 rfl ?_
   refine g_skip rfl rfl hg27 rfl ?_
   refine r_pickT rfl hg27 rfl rfl ?_
   refine awl_nil ?_
   refine x_then ?_
   refine awp_condT rfl ?_
   refine awp_seq ?_
   refine awp_region ?_
   refine r_assign rfl rfl ?_
   refine awl_nil ?_
   refine x_then ?_
   refine awp_ret ?_
   refine x_thenR ?_
   exact ⟨(.inl rfl), _, [], (.one (by first | exact .mk rfl rfl | exact .nil rfl)), ⟨rfl, rfl⟩, (List.nil_sublist _), (by simp)⟩
  ·
   have hl_l : l.length ≤ 30 := by have := of_decide_eq_false hg27; simp at this; omega
   refine g_run rfl rfl hg27 ?_
   refine r_move rfl rfl ?_
   refine g_run rfl rfl hg27 ?_
   first | (refine r_lenS rfl rfl TW.sl22 rfl ?_) | (refine r_lenNil rfl TW.sl22 rfl ?_) | (refine r_lenV rfl TW.sl22 rfl ?_)
   refine g_run rfl rfl hg27 ?_
   refine r_cmp rfl rfl rfl rfl ?_
   refine r_pickF rfl hg27 rfl rfl ?_
   refine awl_nil ?_
   refine x_then ?_
   refine awp_cond rfl (fun hc1 => ?_) (fun hc1 => ?_)
   ·
    refine awp_seq ?_
    refine awp_region ?_
    refine r_assign rfl rfl ?_
    refine awl_nil ?_
    refine x_then ?_
    refine awp_ret ?_
    refine x_thenR ?_
    exact ⟨(.inl rfl), _, [], (.one (by first | exact .mk rfl rfl | exact .nil rfl)), ⟨rfl, rfl⟩, (List.nil_sublist _), (by simp)⟩
   ·
    have hl_m : m.length ≤ 10 := by have := of_decide_eq_false hc1; simp at this; omega
    refine awp_skip ?_
    refine x_then ?_
    refine awp_seq ?_
    refine awp_region ?_
    refine r_move rfl rfl ?_
    refine r_callO hq rfl rfl (.cons (.ev rfl rfl) .nil) (laid_ok l hok (by omega)) rfl TW.en8 (List.nil_sublist _) rfl (fun r nobjs hr => ?_)
    obtain ⟨g, gf, t0, X, F, rfl, rfl, hL⟩ := hr
    obtain ⟨⟨rt, nn⟩, rfl⟩ := hL.idx.so
    have hXs := hL.idx.good.st
    have hG := hL.idx.good
    refine r_move rfl rfl ?_
    refine r_extract rfl rfl rfl ?_
    refine r_extract rfl rfl rfl ?_
    refine r_assign rfl rfl ?_
    refine r_assign rfl rfl ?_
    refine awl_nil ?_
    refine x_then ?_
    refine awp_seq ?_
    refine awp_region ?_
    refine r_move rfl rfl ?_
    first | (refine r_lenS rfl rfl TW.sl22 rfl ?_) | (refine r_lenNil rfl TW.sl22 rfl ?_) | (refine r_lenV rfl TW.sl22 rfl ?_)
    refine r_conv (l.length : Int) rfl TW.un3 TW.un31 (by rw [List.length_map]; exact wrap_u64 (by omega)) rfl ?_
    refine r_ari ((l.length + 1 : Nat) : Int) rfl rfl rfl (by rw [wrap_u64 (by omega)]; omega) rfl ?_
    refine r_assign rfl rfl ?_
    refine awl_nil ?_
    refine x_then ?_
    refine awp_seq ?_
    refine awp_region ?_
    refine r_move rfl rfl ?_
    refine r_conv ((w : Nat) : Int) rfl TW.un5 TW.un31 (wrap_u64 (by omega)) rfl ?_
    refine r_move rfl rfl ?_
    refine r_div ((w % (l.length + 1) : Nat) : Int) rfl rfl (rem_some (by omega)) (by rw [Int.tmod_eq_emod_of_nonneg (by omega)]; rfl) rfl ?_
    refine r_assign rfl rfl ?_
    refine awl_nil ?_
    refine x_then ?_
    refine awp_seq ?_
    refine awp_seq ?_
    refine awp_region ?_
    refine r_move rfl rfl ?_
    refine r_move rfl rfl ?_
    refine r_move rfl rfl ?_
    refine r_callW hq [true, false] rfl rfl (.cons (.ev rfl rfl) (.cons (.ev rfl rfl) (.cons (.ev rfl rfl) (.cons (.ev rfl rfl) (.cons (.ev rfl rfl) .nil))))) (fork_ok F hL.fo 9 0 (by omega) (by omega) (by omega) ((w % (l.length + 1) : Nat) : Int) ((l.length + 1 : Nat) : Int) gf) rfl TW.en13 rfl rfl (List.nil_sublist _) rfl (fun r nobjs hr => ?_)
    obtain ⟨rfl, rfl⟩ := hr
    have hat : w % (l.length + 1) < l.length + 1 := Nat.mod_lt _ (by omega)
    rw [fork9 hL.fo hL.dead (by omega) (by omega)]
    have hF9 : Fo (F.set 9 ⟨true, 0, ((w % (l.length + 1) : Nat) : Int), ((l.length + 1 : Nat) : Int)⟩) := fo_fork9 hL.fo hL.dead (by omega) (by omega)
    have hT0 : Two X ((l.length + 1 : Nat) : Int) ((l.length + 1 : Nat) : Int) := ⟨hXs, fun z hz => by have := hL.nums z hz; omega, fun z hz h => by have := hL.brs z hz; omega⟩
    refine r_cmp rfl rfl rfl rfl ?_
    refine awl_nil ?_
    refine x_then ?_
    refine awp_cond rfl (fun hc2 => ?_) (fun hc2 => ?_)
    ·
     exfalso; simp at hc2
    ·
     refine awp_skip ?_
     refine x_then ?_
     refine awp_seq ?_
     refine awp_region ?_
     refine r_move rfl rfl ?_
     refine r_move rfl rfl ?_
     refine r_move rfl rfl ?_
     refine r_callO hq rfl rfl (.cons (.ev rfl rfl) (.cons (.ev rfl rfl) (.cons (.ev rfl rfl) (.cons (.ev rfl rfl) .nil)))) (view0b (rt, nn) _ hF9 ((w % (l.length + 1) : Nat) : Int) (by omega) g gf true true) rfl TW.en9 (.cons_cons _ (.cons_cons _ (List.nil_sublist _))) rfl (fun r nobjs hr => ?_)
     obtain ⟨rfl, rfl⟩ := hr
     refine r_move rfl rfl ?_
     refine r_extract rfl rfl rfl ?_
     refine r_extract rfl rfl rfl ?_
     refine r_alloc TW.zero33 rfl (fun b11 => ?_)
     first | (refine r_store 0 rfl rfl rfl TW.sz33 rfl rfl rfl ?_) | (refine r_store 1 rfl rfl rfl TW.sz33 rfl rfl rfl ?_) | (refine r_store 2 rfl rfl rfl TW.sz33 rfl rfl rfl ?_)
     refine r_assign rfl rfl ?_
     refine awl_nil ?_
     refine x_then ?_
     refine awp_seq ?_
     refine awp_region ?_
     refine r_move rfl rfl ?_
     refine r_move rfl rfl ?_
     refine r_move rfl rfl ?_
     refine r_callO hq rfl rfl (.cons (.ev rfl rfl) (.cons (.ev rfl rfl) (.cons (.ev rfl rfl) (.cons (.ev rfl rfl) .nil)))) (view9b (rt, nn) F hL.fo _ _ hF9 ((l.length + 1 : Nat) : Int) (Int.le_refl _) g gf true true) rfl TW.en9 (.cons _ (.cons_cons _ (.cons_cons _ (List.nil_sublist _)))) rfl (fun r nobjs hr => ?_)
     obtain ⟨rfl, rfl⟩ := hr
     refine r_move rfl rfl ?_
     refine r_extract rfl rfl rfl ?_
     refine r_extract rfl rfl rfl ?_
     refine r_alloc TW.zero33 rfl (fun b13 => ?_)
     first | (refine r_store 0 rfl rfl rfl TW.sz33 rfl rfl rfl ?_) | (refine r_store 1 rfl rfl rfl TW.sz33 rfl rfl rfl ?_) | (refine r_store 2 rfl rfl rfl TW.sz33 rfl rfl rfl ?_) | (refine r_store 3 rfl rfl rfl TW.sz33 rfl rfl rfl ?_)
     refine r_assign rfl rfl ?_
     refine awl_nil ?_
     refine x_then ?_
     refine awp_seq ?_
     refine awp_seq ?_
     refine awp_region ?_
     refine r_move rfl rfl ?_
     refine r_cmp rfl rfl rfl rfl ?_
     refine r_move rfl rfl ?_
     refine g_run rfl rfl rfl ?_
     refine r_move rfl rfl ?_
     refine g_run rfl rfl rfl ?_
     refine r_cmp rfl rfl rfl rfl ?_
     refine r_pickF rfl rfl rfl rfl ?_
     refine r_move rfl rfl ?_
     refine g_run rfl rfl rfl ?_
     refine r_loadAb 1 rfl rfl TW.agg33 TW.sz33 rfl rfl ?_
     refine g_run rfl rfl rfl ?_
     refine r_loadAb 0 rfl rfl TW.agg33 TW.sz33 rfl rfl ?_
     refine g_run rfl rfl rfl ?_
     refine r_call0 hq rfl rfl (.cons (.ev rfl rfl) (.cons (.ev rfl rfl) (.cons (.ev rfl rfl) (.cons (.ev rfl rfl) .nil)))) (of_ok (some (rt, nn)) X hG [⟨0, 0, ((w % (l.length + 1) : Nat) : Int)⟩] (by simp) (((w % (l.length + 1) : Nat) : Int)) 2 5 (by omega) (by omega) (some (rt, nn)) X hG [⟨9, ((l.length + 1 : Nat) : Int), ((l.length + 1 : Nat) : Int)⟩, ⟨0, 0, ((w % (l.length + 1) : Nat) : Int)⟩] (by simp) (((l.length + 1 : Nat) : Int))) rfl TW.en10 rfl (fun r hr => ?_)
     obtain rfl := hr
     rw [fork_same hXs (fun z hz => by have := hL.brs z hz; omega)]
     refine g_run rfl rfl rfl ?_
     first | (refine r_lenS rfl rfl TW.sl37 rfl ?_) | (refine r_lenNil rfl TW.sl37 rfl ?_) | (refine r_lenV rfl TW.sl37 rfl ?_)
     refine g_run rfl rfl rfl ?_
     refine r_cmp rfl rfl rfl rfl ?_
     refine r_pickF rfl rfl rfl rfl ?_
     refine awl_nil ?_
     refine x_then ?_
     refine awp_cond rfl (fun hc3 => ?_) (fun hc3 => ?_)
     ·
      exfalso; exact absurd hc3 (by decide)
     ·
      refine awp_skip ?_
      refine x_then ?_
      refine awp_seq ?_
      refine awp_seq ?_
      refine awp_region ?_
      refine r_move rfl rfl ?_
      first | (refine r_lenS rfl rfl TW.sl22 rfl ?_) | (refine r_lenNil rfl TW.sl22 rfl ?_) | (refine r_lenV rfl TW.sl22 rfl ?_)
      refine r_move rfl rfl ?_
      refine awl_nil ?_
      refine x_then ?_
      refine awp_block ?_
      refine awp_imp (imp_perm (objs := [⟨g, true, .box [encT (some (rt, nn))]⟩, ⟨gf, true, .box (twsA (F.set 9 ⟨true, 0, ((w % (l.length + 1) : Nat) : Int), ((l.length + 1 : Nat) : Int)⟩))⟩, ⟨b11, true, .box [encT (some (rt, nn)), .sl 3 ([⟨0, 0, ((w % (l.length + 1) : Nat) : Int)⟩].map St.cs), .v (.int .u64 (((w % (l.length + 1) : Nat) : Int)))]⟩, ⟨b13, true, .box [encT (some (rt, nn)), .sl 3 ([⟨9, ((l.length + 1 : Nat) : Int), ((l.length + 1 : Nat) : Int)⟩, ⟨0, 0, ((w % (l.length + 1) : Nat) : Int)⟩].map St.cs), .v (.int .u64 (((l.length + 1 : Nat) : Int)))]⟩]) (List.reverse_perm [_, _, _, _])) ?_
      refine awp_loop (fun nn0 S => ∃ i : Nat, ∃ rc : Rt, ∃ nc : Int, ∃ xc : List It, S = ⟨136, [(7, .a (.v (.pointer (some ⟨g, 0, none⟩)))), (8, .a (.v (.pointer (some ⟨gf, 0, none⟩)))), (9, .a (.v (.int .u64 ((l.length + 1 : Nat) : Int)))), (77, .a (.sl 5 (m.map FA.cs))), (78, .a (.v (.int .i64 (((m.map FA.cs).length : Nat))))), (79, .a (.v (.int .i64 ((i : Int)))))], [⟨g, true, .box [encT (some (rc, nc))]⟩, ⟨gf, true, .box (twsA (F.set 9 ⟨true, 0, ((w % (l.length + 1) : Nat) : Int), ((l.length + 1 : Nat) : Int)⟩))⟩]⟩ ∧ nn0 = m.length - i ∧ (i ≤ m.length) ∧ (Idx (some (rc, nc)) xc) ∧ (Two xc ((l.length + 1 : Nat) : Int) ((l.length + 1 + i : Nat) : Int)) ∧ (xc.length ≤ 100 + i)) (m.length - (0)) ⟨136, [(7, .a (.v (.pointer (some ⟨g, 0, none⟩)))), (8, .a (.v (.pointer (some ⟨gf, 0, none⟩)))), (9, .a (.v (.int .u64 ((l.length + 1 : Nat) : Int)))), (77, .a (.sl 5 (m.map FA.cs))), (78, .a (.v (.int .i64 (((m.map FA.cs).length : Nat))))), (79, .a (.v (.int .i64 (((0) : Int)))))], [⟨g, true, .box [encT (some ((rt), (nn)))]⟩, ⟨gf, true, .box (twsA (F.set 9 ⟨true, 0, ((w % (l.length + 1) : Nat) : Int), ((l.length + 1 : Nat) : Int)⟩))⟩]⟩ ⟨rfl, (Slots.cons rfl (by first | exact .refl _ | exact .nilOwn _ _ | exact .nilSl _ | exact .ownSl _ _ _  | exact SV.le.of_eq (by simp)) (Slots.cons rfl (by first | exact .refl _ | exact .nilOwn _ _ | exact .nilSl _ | exact .ownSl _ _ _  | exact SV.le.of_eq (by simp)) (Slots.cons rfl (by first | exact .refl _ | exact .nilOwn _ _ | exact .nilSl _ | exact .ownSl _ _ _  | exact SV.le.of_eq (by simp)) (Slots.cons rfl (by first | exact .refl _ | exact .nilOwn _ _ | exact .nilSl _ | exact .ownSl _ _ _  | exact SV.le.of_eq (by simp)) (Slots.cons rfl (by first | exact .refl _ | exact .nilOwn _ _ | exact .nilSl _ | exact .ownSl _ _ _  | exact SV.le.of_eq (by simp)) (Slots.cons rfl (by first | exact .refl _ | exact .nilOwn _ _ | exact .nilSl _ | exact .ownSl _ _ _  | exact SV.le.of_eq (by simp)) Slots.nil)))))), (.cons_cons _ (.cons_cons _ (List.nil_sublist _)))⟩ ⟨0, rt, nn, X, rfl, rfl, Nat.zero_le _, hL.idx, hT0, (by have := hL.len; omega)⟩ ?_
      rintro nn0 _ ⟨i, rc, nc, xc, rfl, rfl, hi, hIc, hT, hxl⟩
      refine awp_seq ?_
      refine awp_region ?_
      refine r_cmp rfl rfl rfl rfl ?_
      refine awl_nil ?_
      refine x_then ?_
      refine awp_seq ?_
      refine awp_cond rfl (fun hc4 => ?_) (fun hc4 => ?_)
      ·
       have hltac : i < m.length := by have := of_decide_eq_true hc4; simpa using this
       obtain ⟨ac, hac⟩ := get_lt hltac
       obtain ⟨ob, ov, ok_, on⟩ := hok2 ac (List.mem_of_getElem? hac)
       refine awp_skip ?_
       refine x_then ?_
       refine awp_seq ?_
       refine awp_block ?_
       refine awp_seq ?_
       refine awp_region ?_
       refine r_move rfl rfl ?_
       refine r_index rfl rfl rfl TW.sl22 TW.sz45 (by omega) (get_map hac) rfl ?_
       first | (refine r_loadAb 0 rfl rfl TW.agg45 TW.sz45 rfl rfl ?_) | (refine r_loadA rfl TW.agg45 TW.sz45 rfl rfl ?_) | (refine r_loadAb 1 rfl rfl TW.agg45 TW.sz45 rfl rfl ?_)
       refine r_alloc TW.zero45 rfl (fun b16 => ?_)
       refine r_assign rfl rfl ?_
       first | (refine r_store 0 rfl rfl rfl TW.sz45 rfl rfl rfl ?_) | (refine r_store 1 rfl rfl rfl TW.sz45 rfl rfl rfl ?_) | (refine r_store 2 rfl rfl rfl TW.sz45 rfl rfl rfl ?_)
       refine awl_nil ?_
       refine x_then ?_
       refine awp_seq ?_
       refine awp_region ?_
       refine r_assign rfl rfl ?_
       refine awl_nil ?_
       refine x_then ?_
       refine awp_seq ?_
       refine awp_seq ?_
       refine awp_region ?_
       first | (refine r_fieldpt rfl TW.f45_1 TW.sz5 rfl ?_) | (refine r_fieldcp rfl TW.f45_1 TW.sz5 rfl ?_) | (refine r_fieldb rfl TW.f45_1 TW.sz5 rfl ?_)
       refine r_load1b 0 rfl rfl rfl TW.agg5 rfl ?_
       refine r_div ((ac.b % 2 : Nat) : Int) rfl rfl (rem_some (by decide)) (by rw [Int.tmod_eq_emod_of_nonneg (by omega)]; omega) rfl ?_
       refine r_cmp rfl rfl rfl rfl ?_
       refine awl_nil ?_
       refine x_then ?_
       refine awp_cond rfl (fun hc5 => ?_) (fun hc5 => ?_)
       ·
        refine awp_region ?_
        refine r_assign rfl rfl ?_
        refine awl_nil ?_
        refine x_then ?_
        refine awp_seq ?_
        refine awp_region ?_
        refine r_move rfl rfl ?_
        refine r_move rfl rfl ?_
        refine r_move rfl rfl ?_
        refine r_ari 0 rfl rfl rfl rfl rfl ?_
        refine r_move rfl rfl ?_
        refine r_move rfl rfl ?_
        refine r_conv (i : Int) rfl TW.un3 TW.un31 (wrap_u64 (by omega)) rfl ?_
        refine r_ari ((l.length + 1 + i : Nat) : Int) rfl rfl rfl (by rw [wrap_u64 (by omega)]; omega) rfl ?_
        refine r_callO hq rfl rfl (.cons (.ev rfl rfl) (.cons (.ev rfl rfl) (.cons (.ev rfl rfl) (.cons (.ev rfl rfl) .nil)))) (view0a (rc, nc) _ hF9 ((l.length + 1 + i : Nat) : Int) (by omega) g gf true true) rfl TW.en9 (.cons _ (.cons_cons _ (.cons_cons _ (List.nil_sublist _)))) rfl (fun r nobjs hr => ?_)
        obtain ⟨rfl, rfl⟩ := hr
        refine r_move rfl rfl ?_
        refine r_extract rfl rfl rfl ?_
        refine r_extract rfl rfl rfl ?_
        refine r_alloc TW.zero33 rfl (fun b18 => ?_)
        first | (refine r_store 0 rfl rfl rfl TW.sz33 rfl rfl rfl ?_) | (refine r_store 1 rfl rfl rfl TW.sz33 rfl rfl rfl ?_) | (refine r_store 2 rfl rfl rfl TW.sz33 rfl rfl rfl ?_) | (refine r_store 3 rfl rfl rfl TW.sz33 rfl rfl rfl ?_)
        refine r_assign rfl rfl ?_
        refine awl_nil ?_
        refine x_then ?_
        refine awp_seq ?_
        refine awp_region ?_
        refine r_move rfl rfl ?_
        refine r_move rfl rfl ?_
        first | (refine r_fieldpt rfl TW.f45_2 TW.sz5 rfl ?_) | (refine r_fieldcp rfl TW.f45_2 TW.sz5 rfl ?_) | (refine r_fieldb rfl TW.f45_2 TW.sz5 rfl ?_)
        refine r_load1b 1 rfl rfl rfl TW.agg5 rfl ?_
        refine r_conv ((ac.v : Nat) : Int) rfl TW.un5 TW.un3 (wrap_id (by omega)) rfl ?_
        refine r_div ((ac.v % 2 : Nat) : Int) rfl rfl (rem_some (by omega)) (by rw [Int.tmod_eq_emod_of_nonneg (by omega)]; omega) rfl ?_
        first | (refine r_fieldpt rfl TW.f45_3 TW.sz5 rfl ?_) | (refine r_fieldcp rfl TW.f45_3 TW.sz5 rfl ?_) | (refine r_fieldb rfl TW.f45_3 TW.sz5 rfl ?_)
        refine r_load1b 1 rfl rfl rfl TW.agg5 rfl ?_
        refine r_conv ((ac.k : Nat) : Int) rfl TW.un5 TW.un3 (wrap_id (by omega)) rfl ?_
        refine r_div ((ac.k % 5 : Nat) : Int) rfl rfl (rem_some (by omega)) (by rw [Int.tmod_eq_emod_of_nonneg (by omega)]; omega) rfl ?_
        refine r_build (parts := [(0, .tmp 101), (1, .tmp 105), (2, .tmp 109)]) rfl TW.pl47 TW.zero47 rfl rfl rfl ?_
        refine r_move rfl rfl ?_
        refine r_move rfl rfl ?_
        refine r_conv (i : Int) rfl TW.un3 TW.un31 (wrap_u64 (by omega)) rfl ?_
        refine r_ari ((l.length + 1 + i : Nat) : Int) rfl rfl rfl (by rw [wrap_u64 (by omega)]; omega) rfl ?_
        refine r_ari (((l.length + 1 + i : Nat) : Int) + 1) rfl rfl rfl (wrap_u64 (by omega)) rfl ?_
        refine r_callW hq [false, false, true, false] rfl rfl (.cons (.ev rfl rfl) (.cons (.ev rfl rfl) (.cons (.ev rfl rfl) .nil))) (ixPut_ok (some (rc, nc)) xc hIc (by omega) (⟨9, ((ac.v % 2 : Nat) : Int), ((ac.k % 5 : Nat) : Int), (((l.length + 1 + i : Nat) : Int) + 1)⟩ : Sp) (⟨⟨by simp only; omega, by simp only; omega⟩, ⟨by simp only; omega, by simp only; omega⟩, ⟨by simp only; omega, by simp only; omega⟩, ⟨by simp only; omega, by simp only; omega⟩⟩) (two_free hT (by omega) _ rfl) g) rfl TW.en12 rfl rfl (List.nil_sublist _) rfl (fun r nobjs hr => ?_)
        obtain ⟨rfl, t', rfl, hI'⟩ := hr
        obtain ⟨⟨rd, nd⟩, rfl⟩ := hI'.so
        have hT' := two_put (v := (((l.length + 1 + i : Nat) : Int) + 1)) hT (q := (⟨9, ((ac.v % 2 : Nat) : Int), ((ac.k % 5 : Nat) : Int), (((l.length + 1 + i : Nat) : Int) + 1)⟩ : Sp)) rfl (by omega) (by omega)
        have hlp := refPut_len xc (⟨9, ((ac.v % 2 : Nat) : Int), ((ac.k % 5 : Nat) : Int), (((l.length + 1 + i : Nat) : Int) + 1)⟩ : Sp) (((l.length + 1 + i : Nat) : Int) + 1)
        refine awl_nil ?_
        refine x_then ?_
        refine awp_seq ?_
        refine awp_region ?_
        refine r_move rfl rfl ?_
        refine r_move rfl rfl ?_
        refine r_move rfl rfl ?_
        refine r_ari 0 rfl rfl rfl rfl rfl ?_
        refine r_move rfl rfl ?_
        refine r_move rfl rfl ?_
        refine r_conv (i : Int) rfl TW.un3 TW.un31 (wrap_u64 (by omega)) rfl ?_
        refine r_ari ((l.length + 1 + i : Nat) : Int) rfl rfl rfl (by rw [wrap_u64 (by omega)]; omega) rfl ?_
        refine r_ari (((l.length + 1 + i : Nat) : Int) + 1) rfl rfl rfl (wrap_u64 (by omega)) rfl ?_
        refine r_callO hq rfl rfl (.cons (.ev rfl rfl) (.cons (.ev rfl rfl) (.cons (.ev rfl rfl) (.cons (.ev rfl rfl) .nil)))) (view0a (rd, nd) _ hF9 (((l.length + 1 + i : Nat) : Int) + 1) (by omega) g gf true true) rfl TW.en9 (.cons_cons _ (.cons _ (.cons _ (.cons_cons _ (List.nil_sublist _))))) rfl (fun r nobjs hr => ?_)
        obtain ⟨rfl, rfl⟩ := hr
        refine r_move rfl rfl ?_
        refine r_extract rfl rfl rfl ?_
        refine r_extract rfl rfl rfl ?_
        refine r_alloc TW.zero33 rfl (fun b20 => ?_)
        first | (refine r_store 0 rfl rfl rfl TW.sz33 rfl rfl rfl ?_) | (refine r_store 1 rfl rfl rfl TW.sz33 rfl rfl rfl ?_) | (refine r_store 2 rfl rfl rfl TW.sz33 rfl rfl rfl ?_) | (refine r_store 3 rfl rfl rfl TW.sz33 rfl rfl rfl ?_) | (refine r_store 4 rfl rfl rfl TW.sz33 rfl rfl rfl ?_)
        refine r_assign rfl rfl ?_
        refine awl_nil ?_
        refine x_then ?_
        refine awp_seq ?_
        refine awp_region ?_
        refine r_loadAb 2 rfl rfl TW.agg33 TW.sz33 rfl rfl ?_
        refine r_loadAb 0 rfl rfl TW.agg33 TW.sz33 rfl rfl ?_
        refine r_call0 hq rfl rfl (.cons (.ev rfl rfl) (.cons (.ev rfl rfl) (.cons (.ev rfl rfl) (.cons (.ev rfl rfl) .nil)))) (of_ok (some (rc, nc)) xc hIc.good [⟨0, 0, ((l.length + 1 + i : Nat) : Int)⟩] (by simp) (((l.length + 1 + i : Nat) : Int)) 2 5 (by omega) (by omega) (some (rd, nd)) (refPut xc (⟨9, ((ac.v % 2 : Nat) : Int), ((ac.k % 5 : Nat) : Int), (((l.length + 1 + i : Nat) : Int) + 1)⟩ : Sp) (((l.length + 1 + i : Nat) : Int) + 1)) hI'.good [⟨0, 0, (((l.length + 1 + i : Nat) : Int) + 1)⟩] (by simp) ((((l.length + 1 + i : Nat) : Int) + 1))) rfl TW.en10 rfl (fun r hr => ?_)
        obtain rfl := hr
        rw [trunk_still hT (q := (⟨9, ((ac.v % 2 : Nat) : Int), ((ac.k % 5 : Nat) : Int), (((l.length + 1 + i : Nat) : Int) + 1)⟩ : Sp)) (v := (((l.length + 1 + i : Nat) : Int) + 1)) rfl rfl]
        first | (refine r_lenS rfl rfl TW.sl37 rfl ?_) | (refine r_lenNil rfl TW.sl37 rfl ?_) | (refine r_lenV rfl TW.sl37 rfl ?_)
        refine r_cmp rfl rfl rfl rfl ?_
        refine awl_nil ?_
        refine x_then ?_
        refine awp_cond rfl (fun hc6 => ?_) (fun hc6 => ?_)
        ·
         exfalso; exact absurd hc6 (by decide)
        ·
         refine awp_skip ?_
         refine x_block ?_
         refine x_then ?_
         refine awp_region ?_
         refine r_ari _ rfl rfl rfl (wrap_id (by first | omega | (simp; omega))) rfl ?_
         refine r_move rfl rfl ?_
         refine awl_nil ?_
         refine x_then ?_
         refine ⟨m.length - (i + 1), ⟨136, [(7, .a (.v (.pointer (some ⟨g, 0, none⟩)))), (8, .a (.v (.pointer (some ⟨gf, 0, none⟩)))), (9, .a (.v (.int .u64 ((l.length + 1 : Nat) : Int)))), (77, .a (.sl 5 (m.map FA.cs))), (78, .a (.v (.int .i64 (((m.map FA.cs).length : Nat))))), (79, .a (.v (.int .i64 (((i + 1) : Int)))))], [⟨g, true, .box [encT (some ((rd), (nd)))]⟩, ⟨gf, true, .box (twsA (F.set 9 ⟨true, 0, ((w % (l.length + 1) : Nat) : Int), ((l.length + 1 : Nat) : Int)⟩))⟩]⟩, ⟨rfl, (Slots.cons rfl (by first | exact .refl _ | exact .nilOwn _ _ | exact .nilSl _ | exact .ownSl _ _ _  | exact SV.le.of_eq (by simp)) (Slots.cons rfl (by first | exact .refl _ | exact .nilOwn _ _ | exact .nilSl _ | exact .ownSl _ _ _  | exact SV.le.of_eq (by simp)) (Slots.cons rfl (by first | exact .refl _ | exact .nilOwn _ _ | exact .nilSl _ | exact .ownSl _ _ _  | exact SV.le.of_eq (by simp)) (Slots.cons rfl (by first | exact .refl _ | exact .nilOwn _ _ | exact .nilSl _ | exact .ownSl _ _ _  | exact SV.le.of_eq (by simp)) (Slots.cons rfl (by first | exact .refl _ | exact .nilOwn _ _ | exact .nilSl _ | exact .ownSl _ _ _  | exact SV.le.of_eq (by simp)) (Slots.cons rfl (by first | exact .refl _ | exact .nilOwn _ _ | exact .nilSl _ | exact .ownSl _ _ _  | exact SV.le.of_eq (by simp)) Slots.nil)))))), (.cons _ (.cons_cons _ (.cons _ (.cons _ (.cons_cons _ (List.nil_sublist _))))))⟩, (by omega), ⟨i + 1, rd, nd, (refPut xc (⟨9, ((ac.v % 2 : Nat) : Int), ((ac.k % 5 : Nat) : Int), (((l.length + 1 + i : Nat) : Int) + 1)⟩ : Sp) (((l.length + 1 + i : Nat) : Int) + 1)), rfl, rfl, (by omega), hI', (by rw [show ((l.length + 1 + (i + 1) : Nat) : Int) = (((l.length + 1 + i : Nat) : Int) + 1) by omega]; exact hT'), (by omega)⟩⟩
       ·
        refine awp_skip ?_
        refine x_then ?_
        refine awp_seq ?_
        refine awp_region ?_
        refine r_move rfl rfl ?_
        refine r_move rfl rfl ?_
        refine r_move rfl rfl ?_
        refine r_ari 9 rfl rfl rfl rfl rfl ?_
        refine r_move rfl rfl ?_
        refine r_move rfl rfl ?_
        refine r_conv (i : Int) rfl TW.un3 TW.un31 (wrap_u64 (by omega)) rfl ?_
        refine r_ari ((l.length + 1 + i : Nat) : Int) rfl rfl rfl (by rw [wrap_u64 (by omega)]; omega) rfl ?_
        refine r_callO hq rfl rfl (.cons (.ev rfl rfl) (.cons (.ev rfl rfl) (.cons (.ev rfl rfl) (.cons (.ev rfl rfl) .nil)))) (view9a (rc, nc) F hL.fo _ _ hF9 ((l.length + 1 + i : Nat) : Int) (by omega) g gf true true) rfl TW.en9 (.cons _ (.cons_cons _ (.cons_cons _ (List.nil_sublist _)))) rfl (fun r nobjs hr => ?_)
        obtain ⟨rfl, rfl⟩ := hr
        refine r_move rfl rfl ?_
        refine r_extract rfl rfl rfl ?_
        refine r_extract rfl rfl rfl ?_
        refine r_alloc TW.zero33 rfl (fun b18 => ?_)
        first | (refine r_store 0 rfl rfl rfl TW.sz33 rfl rfl rfl ?_) | (refine r_store 1 rfl rfl rfl TW.sz33 rfl rfl rfl ?_) | (refine r_store 2 rfl rfl rfl TW.sz33 rfl rfl rfl ?_) | (refine r_store 3 rfl rfl rfl TW.sz33 rfl rfl rfl ?_)
        refine r_assign rfl rfl ?_
        refine awl_nil ?_
        refine x_then ?_
        refine awp_seq ?_
        refine awp_region ?_
        refine r_move rfl rfl ?_
        refine r_move rfl rfl ?_
        first | (refine r_fieldpt rfl TW.f45_2 TW.sz5 rfl ?_) | (refine r_fieldcp rfl TW.f45_2 TW.sz5 rfl ?_) | (refine r_fieldb rfl TW.f45_2 TW.sz5 rfl ?_)
        refine r_load1b 1 rfl rfl rfl TW.agg5 rfl ?_
        refine r_conv ((ac.v : Nat) : Int) rfl TW.un5 TW.un3 (wrap_id (by omega)) rfl ?_
        refine r_div ((ac.v % 2 : Nat) : Int) rfl rfl (rem_some (by omega)) (by rw [Int.tmod_eq_emod_of_nonneg (by omega)]; omega) rfl ?_
        first | (refine r_fieldpt rfl TW.f45_3 TW.sz5 rfl ?_) | (refine r_fieldcp rfl TW.f45_3 TW.sz5 rfl ?_) | (refine r_fieldb rfl TW.f45_3 TW.sz5 rfl ?_)
        refine r_load1b 1 rfl rfl rfl TW.agg5 rfl ?_
        refine r_conv ((ac.k : Nat) : Int) rfl TW.un5 TW.un3 (wrap_id (by omega)) rfl ?_
        refine r_div ((ac.k % 5 : Nat) : Int) rfl rfl (rem_some (by omega)) (by rw [Int.tmod_eq_emod_of_nonneg (by omega)]; omega) rfl ?_
        refine r_build (parts := [(0, .tmp 101), (1, .tmp 105), (2, .tmp 109)]) rfl TW.pl47 TW.zero47 rfl rfl rfl ?_
        refine r_move rfl rfl ?_
        refine r_move rfl rfl ?_
        refine r_conv (i : Int) rfl TW.un3 TW.un31 (wrap_u64 (by omega)) rfl ?_
        refine r_ari ((l.length + 1 + i : Nat) : Int) rfl rfl rfl (by rw [wrap_u64 (by omega)]; omega) rfl ?_
        refine r_ari (((l.length + 1 + i : Nat) : Int) + 1) rfl rfl rfl (wrap_u64 (by omega)) rfl ?_
        refine r_callW hq [false, false, true, false] rfl rfl (.cons (.ev rfl rfl) (.cons (.ev rfl rfl) (.cons (.ev rfl rfl) .nil))) (ixPut_ok (some (rc, nc)) xc hIc (by omega) (⟨0, ((ac.v % 2 : Nat) : Int), ((ac.k % 5 : Nat) : Int), (((l.length + 1 + i : Nat) : Int) + 1)⟩ : Sp) (⟨⟨by simp only; omega, by simp only; omega⟩, ⟨by simp only; omega, by simp only; omega⟩, ⟨by simp only; omega, by simp only; omega⟩, ⟨by simp only; omega, by simp only; omega⟩⟩) (two_free hT (by omega) _ rfl) g) rfl TW.en12 rfl rfl (List.nil_sublist _) rfl (fun r nobjs hr => ?_)
        obtain ⟨rfl, t', rfl, hI'⟩ := hr
        obtain ⟨⟨rd, nd⟩, rfl⟩ := hI'.so
        have hT' := two_put (v := (((l.length + 1 + i : Nat) : Int) + 1)) hT (q := (⟨0, ((ac.v % 2 : Nat) : Int), ((ac.k % 5 : Nat) : Int), (((l.length + 1 + i : Nat) : Int) + 1)⟩ : Sp)) rfl (by omega) (by omega)
        have hlp := refPut_len xc (⟨0, ((ac.v % 2 : Nat) : Int), ((ac.k % 5 : Nat) : Int), (((l.length + 1 + i : Nat) : Int) + 1)⟩ : Sp) (((l.length + 1 + i : Nat) : Int) + 1)
        refine awl_nil ?_
        refine x_then ?_
        refine awp_seq ?_
        refine awp_region ?_
        refine r_move rfl rfl ?_
        refine r_move rfl rfl ?_
        refine r_move rfl rfl ?_
        refine r_ari 9 rfl rfl rfl rfl rfl ?_
        refine r_move rfl rfl ?_
        refine r_move rfl rfl ?_
        refine r_conv (i : Int) rfl TW.un3 TW.un31 (wrap_u64 (by omega)) rfl ?_
        refine r_ari ((l.length + 1 + i : Nat) : Int) rfl rfl rfl (by rw [wrap_u64 (by omega)]; omega) rfl ?_
        refine r_ari (((l.length + 1 + i : Nat) : Int) + 1) rfl rfl rfl (wrap_u64 (by omega)) rfl ?_
        refine r_callO hq rfl rfl (.cons (.ev rfl rfl) (.cons (.ev rfl rfl) (.cons (.ev rfl rfl) (.cons (.ev rfl rfl) .nil)))) (view9a (rd, nd) F hL.fo _ _ hF9 (((l.length + 1 + i : Nat) : Int) + 1) (by omega) g gf true true) rfl TW.en9 (.cons_cons _ (.cons _ (.cons _ (.cons_cons _ (List.nil_sublist _))))) rfl (fun r nobjs hr => ?_)
        obtain ⟨rfl, rfl⟩ := hr
        refine r_move rfl rfl ?_
        refine r_extract rfl rfl rfl ?_
        refine r_extract rfl rfl rfl ?_
        refine r_alloc TW.zero33 rfl (fun b20 => ?_)
        first | (refine r_store 0 rfl rfl rfl TW.sz33 rfl rfl rfl ?_) | (refine r_store 1 rfl rfl rfl TW.sz33 rfl rfl rfl ?_) | (refine r_store 2 rfl rfl rfl TW.sz33 rfl rfl rfl ?_) | (refine r_store 3 rfl rfl rfl TW.sz33 rfl rfl rfl ?_) | (refine r_store 4 rfl rfl rfl TW.sz33 rfl rfl rfl ?_)
        refine r_assign rfl rfl ?_
        refine awl_nil ?_
        refine x_then ?_
        refine awp_seq ?_
        refine awp_region ?_
        refine r_loadAb 2 rfl rfl TW.agg33 TW.sz33 rfl rfl ?_
        refine r_loadAb 0 rfl rfl TW.agg33 TW.sz33 rfl rfl ?_
        refine r_call0 hq rfl rfl (.cons (.ev rfl rfl) (.cons (.ev rfl rfl) (.cons (.ev rfl rfl) (.cons (.ev rfl rfl) .nil)))) (of_ok (some (rc, nc)) xc hIc.good [⟨9, ((l.length + 1 : Nat) : Int), ((l.length + 1 + i : Nat) : Int)⟩, ⟨0, 0, ((w % (l.length + 1) : Nat) : Int)⟩] (by simp) (((l.length + 1 + i : Nat) : Int)) 2 5 (by omega) (by omega) (some (rd, nd)) (refPut xc (⟨0, ((ac.v % 2 : Nat) : Int), ((ac.k % 5 : Nat) : Int), (((l.length + 1 + i : Nat) : Int) + 1)⟩ : Sp) (((l.length + 1 + i : Nat) : Int) + 1)) hI'.good [⟨9, ((l.length + 1 : Nat) : Int), (((l.length + 1 + i : Nat) : Int) + 1)⟩, ⟨0, 0, ((w % (l.length + 1) : Nat) : Int)⟩] (by simp) ((((l.length + 1 + i : Nat) : Int) + 1))) rfl TW.en10 rfl (fun r hr => ?_)
        obtain rfl := hr
        rw [nine_still hT (q := (⟨0, ((ac.v % 2 : Nat) : Int), ((ac.k % 5 : Nat) : Int), (((l.length + 1 + i : Nat) : Int) + 1)⟩ : Sp)) (v := (((l.length + 1 + i : Nat) : Int) + 1)) rfl rfl (by omega)]
        first | (refine r_lenS rfl rfl TW.sl37 rfl ?_) | (refine r_lenNil rfl TW.sl37 rfl ?_) | (refine r_lenV rfl TW.sl37 rfl ?_)
        refine r_cmp rfl rfl rfl rfl ?_
        refine awl_nil ?_
        refine x_then ?_
        refine awp_cond rfl (fun hc6 => ?_) (fun hc6 => ?_)
        ·
         exfalso; exact absurd hc6 (by decide)
        ·
         refine awp_skip ?_
         refine x_block ?_
         refine x_then ?_
         refine awp_region ?_
         refine r_ari _ rfl rfl rfl (wrap_id (by first | omega | (simp; omega))) rfl ?_
         refine r_move rfl rfl ?_
         refine awl_nil ?_
         refine x_then ?_
         refine ⟨m.length - (i + 1), ⟨136, [(7, .a (.v (.pointer (some ⟨g, 0, none⟩)))), (8, .a (.v (.pointer (some ⟨gf, 0, none⟩)))), (9, .a (.v (.int .u64 ((l.length + 1 : Nat) : Int)))), (77, .a (.sl 5 (m.map FA.cs))), (78, .a (.v (.int .i64 (((m.map FA.cs).length : Nat))))), (79, .a (.v (.int .i64 (((i + 1) : Int)))))], [⟨g, true, .box [encT (some ((rd), (nd)))]⟩, ⟨gf, true, .box (twsA (F.set 9 ⟨true, 0, ((w % (l.length + 1) : Nat) : Int), ((l.length + 1 : Nat) : Int)⟩))⟩]⟩, ⟨rfl, (Slots.cons rfl (by first | exact .refl _ | exact .nilOwn _ _ | exact .nilSl _ | exact .ownSl _ _ _  | exact SV.le.of_eq (by simp)) (Slots.cons rfl (by first | exact .refl _ | exact .nilOwn _ _ | exact .nilSl _ | exact .ownSl _ _ _  | exact SV.le.of_eq (by simp)) (Slots.cons rfl (by first | exact .refl _ | exact .nilOwn _ _ | exact .nilSl _ | exact .ownSl _ _ _  | exact SV.le.of_eq (by simp)) (Slots.cons rfl (by first | exact .refl _ | exact .nilOwn _ _ | exact .nilSl _ | exact .ownSl _ _ _  | exact SV.le.of_eq (by simp)) (Slots.cons rfl (by first | exact .refl _ | exact .nilOwn _ _ | exact .nilSl _ | exact .ownSl _ _ _  | exact SV.le.of_eq (by simp)) (Slots.cons rfl (by first | exact .refl _ | exact .nilOwn _ _ | exact .nilSl _ | exact .ownSl _ _ _  | exact SV.le.of_eq (by simp)) Slots.nil)))))), (.cons _ (.cons_cons _ (.cons _ (.cons _ (.cons_cons _ (List.nil_sublist _))))))⟩, (by omega), ⟨i + 1, rd, nd, (refPut xc (⟨0, ((ac.v % 2 : Nat) : Int), ((ac.k % 5 : Nat) : Int), (((l.length + 1 + i : Nat) : Int) + 1)⟩ : Sp) (((l.length + 1 + i : Nat) : Int) + 1)), rfl, rfl, (by omega), hI', (by rw [show ((l.length + 1 + (i + 1) : Nat) : Int) = (((l.length + 1 + i : Nat) : Int) + 1) by omega]; exact hT'), (by omega)⟩⟩
      ·
       have hge : m.length ≤ i := by have := of_decide_eq_false hc4; simp at this; omega
       refine awp_exit ?_
       refine x_thenE ?_
       refine x_thenE ?_
       refine x_blockE ?_
       refine x_then ?_
       refine awp_seq ?_
       refine awp_region ?_
       refine r_assign rfl rfl ?_
       refine awl_nil ?_
       refine x_then ?_
       refine awp_ret ?_
       exact ⟨(.inl rfl), _, [], (.one (by first | exact .mk rfl rfl | exact .nil rfl)), ⟨rfl, rfl⟩, (List.nil_sublist _), (by simp)⟩
end Go.Proofs.Ytpkodkoooaldlaa.A
namespace Go.Proofs.Ytpkodkoooaldlaa.A
open Go Go.RowKit
set_option linter.unusedVariables false
set_option linter.unusedSimpArgs false
set_option maxRecDepth 100000
theorem fork_law (l m : List FA) (hok : ∀ a ∈ l, a.ok) (hok2 : ∀ a ∈ m, a.ok) (w : Int) (hw : (Lit.int .u8 w).wf = true) : AC Try.prog 5 [.sl 5 (l.map FA.cs), .sl 5 (m.map FA.cs), .v (.int .u8 w)] [] (fun r n => n = [] ∧ r = boolA true) := by
  obtain ⟨w, rfl, kw⟩ := u8_wf hw
  exact fork_walk l m hok hok2 w kw
end Go.Proofs.Ytpkodkoooaldlaa.A

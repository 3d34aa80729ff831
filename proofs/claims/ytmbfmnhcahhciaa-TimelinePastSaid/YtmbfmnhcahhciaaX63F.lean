/- Layer 63: walks of timeline.At. -/
import Derived.Test.YtmbfmnhcahhciaaProg
import Derived.KernelRfl
import Derived.Test.YtmbfmnhcahhciaaX63E
namespace Go.Proofs.Ytmbfmnhcahhciaa.A
open Go Go.RowKit
set_option linter.unusedVariables false
set_option linter.unusedSimpArgs false
set_option maxRecDepth 100000

theorem TF.en59 : entersT Try.prog 59 := enters_of Try.func59 (by kernel_rfl) (by kernel_rfl)
theorem TF.en47 : entersT Try.prog 47 := enters_of Try.func47 (by kernel_rfl) (by kernel_rfl)
theorem TF.en46 : entersT Try.prog 46 := enters_of Try.func46 (by kernel_rfl) (by kernel_rfl)
theorem TF.en45 : entersT Try.prog 45 := enters_of Try.func45 (by kernel_rfl) (by kernel_rfl)
theorem TF.en25 : entersT Try.prog 25 := enters_of Try.func25 (by kernel_rfl) (by kernel_rfl)

def cmpI (a b : Int) : Int := if a < b then -1 else if b < a then 1 else 0
theorem sorted_bad {l : List Ev} {i : Nat} {x y : Ev} (h0 : 0 < i) (hx : l[i - 1]? = some x) (hy : l[i]? = some y) (h : y.moment < x.moment) : sortedE l = false := by
  unfold sortedE
  rw [decide_eq_false_iff_not]
  intro hp
  obtain ⟨q1, rfl⟩ := List.getElem?_eq_some_iff.1 hx
  obtain ⟨q2, rfl⟩ := List.getElem?_eq_some_iff.1 hy
  have := List.pairwise_iff_getElem.1 hp (i - 1) i q1 q2 (by omega)
  omega
theorem sorted_good {l : List Ev} (h : ∀ i, 0 < i → i < l.length → ∀ x y, l[i - 1]? = some x → l[i]? = some y → x.moment ≤ y.moment) : sortedE l = true := by
  unfold sortedE
  rw [decide_eq_true_eq, List.pairwise_iff_getElem]
  intro i j hi hj hij
  obtain ⟨k, rfl⟩ : ∃ k, j = i + 1 + k := ⟨j - (i + 1), by omega⟩
  clear hij
  induction k with
  | zero => exact h (i + 1) (by omega) hj _ _ (List.getElem?_eq_getElem hi) (List.getElem?_eq_getElem hj)
  | succ k ih =>
    have h1 := ih (by omega)
    have h2 := h (i + 1 + (k + 1)) (by omega) hj _ _ (List.getElem?_eq_getElem (show i + 1 + (k + 1) - 1 < l.length by omega)) (List.getElem?_eq_getElem hj)
    have e : l[i + 1 + (k + 1) - 1]'(by omega) = l[i + 1 + k]'(by omega) := by congr 1
    rw [e] at h2
    omega
theorem cmp_neg {a b : Int} (h : cmpI a b < 0) : a < b := by
  unfold cmpI at h
  split at h
  · assumption
  · split at h <;> omega
theorem cmp_nneg {a b : Int} (h : ¬ cmpI a b < 0) : b ≤ a := by
  unfold cmpI at h
  split at h
  · omega
  · omega

theorem isnan_ok (x : Int) : AC Try.prog 59 [.v (.int .u64 x)] [] (fun r n => n = [] ∧ r = boolA false) := by
  refine ac_of_awp (rs := [2]) (nt := 6) Try.func59 rfl rfl rfl rfl (fun w0 C0 hq => ?_)
  refine awp_seq ?_
  refine awp_region ?_
  refine r_assign rfl rfl ?_
  refine awl_nil ?_
  refine x_then ?_
  refine awp_seq ?_
  refine awp_region ?_
  refine r_move rfl rfl ?_
  refine r_move rfl rfl ?_
  refine r_cmp rfl rfl rfl rfl ?_
  refine r_assign rfl rfl ?_
  refine awl_nil ?_
  refine x_then ?_
  refine awp_ret ?_
  exact ⟨(.inl rfl), _, [], (.one (by first | exact .mk rfl rfl | exact .nil rfl)), ⟨rfl, by simp [boolA, SV.av]⟩, (List.nil_sublist _), (by simp)⟩

theorem cmp_ok (x y : Int) : AC Try.prog 47 [.v (.int .u64 x), .v (.int .u64 y)] [] (fun r n => n = [] ∧ r = .v (.int .i64 (cmpI x y))) := by
  refine ac_of_awp (rs := [4]) (nt := 20) Try.func47 rfl rfl rfl rfl (fun w0 C0 hq => ?_)
  refine awp_seq ?_
  refine awp_region ?_
  refine r_assign rfl rfl ?_
  refine awl_nil ?_
  refine x_then ?_
  refine awp_seq ?_
  refine awp_region ?_
  refine r_move rfl rfl ?_
  refine r_call0 hq rfl rfl (.cons (.ev rfl rfl) .nil) (isnan_ok x) rfl TF.en59 rfl (fun r hr => ?_)
  obtain rfl := hr
  refine r_assign rfl rfl ?_
  refine awl_nil ?_
  refine x_then ?_
  refine awp_seq ?_
  refine awp_region ?_
  refine r_move rfl rfl ?_
  refine r_call0 hq rfl rfl (.cons (.ev rfl rfl) .nil) (isnan_ok y) rfl TF.en59 rfl (fun r hr => ?_)
  obtain rfl := hr
  refine r_assign rfl rfl ?_
  refine awl_nil ?_
  refine x_then ?_
  refine awp_seq ?_
  refine awp_seq ?_
  refine awp_region ?_
  refine r_move rfl rfl ?_
  refine awl_nil ?_
  refine x_then ?_
  refine awp_cond rfl (fun hc0 => ?_) (fun hc0 => ?_)
  ·
    exfalso; cases hc0
  ·
    refine awp_skip ?_
    refine x_then ?_
    refine awp_seq ?_
    refine awp_seq ?_
    refine awp_region ?_
    refine r_move rfl rfl ?_
    refine awl_nil ?_
    refine x_then ?_
    refine awp_cond rfl (fun hc2 => ?_) (fun hc2 => ?_)
    ·
      exfalso; cases hc2
    ·
      refine awp_skip ?_
      refine x_then ?_
      refine awp_seq ?_
      refine awp_seq ?_
      refine awp_region ?_
      refine r_move rfl rfl ?_
      refine r_move rfl rfl ?_
      refine r_cmp rfl rfl rfl rfl ?_
      refine awl_nil ?_
      refine x_then ?_
      refine awp_cond rfl (fun hc3 => ?_) (fun hc3 => ?_)
      ·
        have h1 : x < y := of_decide_eq_true hc3
        refine awp_seq ?_
        refine awp_region ?_
        refine r_assign rfl rfl ?_
        refine awl_nil ?_
        refine x_then ?_
        refine awp_ret ?_
        refine x_thenR ?_
        exact ⟨(.inl rfl), _, [], (.one (by first | exact .mk rfl rfl | exact .nil rfl)), ⟨rfl, by first | (rw [cmpI, if_pos h1]; rfl) | (rw [cmpI, if_neg h1, if_pos h2]; rfl) | (rw [cmpI, if_neg h1, if_neg h2]; rfl)⟩, (List.nil_sublist _), (by simp)⟩
      ·
        have h1 : ¬ x < y := of_decide_eq_false hc3
        refine awp_skip ?_
        refine x_then ?_
        refine awp_seq ?_
        refine awp_seq ?_
        refine awp_region ?_
        refine r_move rfl rfl ?_
        refine r_move rfl rfl ?_
        refine r_cmp rfl rfl rfl rfl ?_
        refine awl_nil ?_
        refine x_then ?_
        refine awp_cond rfl (fun hc4 => ?_) (fun hc4 => ?_)
        ·
          have h2 : y < x := of_decide_eq_true hc4
          refine awp_seq ?_
          refine awp_region ?_
          refine r_assign rfl rfl ?_
          refine awl_nil ?_
          refine x_then ?_
          refine awp_ret ?_
          refine x_thenR ?_
          exact ⟨(.inl rfl), _, [], (.one (by first | exact .mk rfl rfl | exact .nil rfl)), ⟨rfl, by first | (rw [cmpI, if_pos h1]; rfl) | (rw [cmpI, if_neg h1, if_pos h2]; rfl) | (rw [cmpI, if_neg h1, if_neg h2]; rfl)⟩, (List.nil_sublist _), (by simp)⟩
        ·
          have h2 : ¬ y < x := of_decide_eq_false hc4
          refine awp_skip ?_
          refine x_then ?_
          refine awp_seq ?_
          refine awp_region ?_
          refine r_assign rfl rfl ?_
          refine awl_nil ?_
          refine x_then ?_
          refine awp_ret ?_
          exact ⟨(.inl rfl), _, [], (.one (by first | exact .mk rfl rfl | exact .nil rfl)), ⟨rfl, by first | (rw [cmpI, if_pos h1]; rfl) | (rw [cmpI, if_neg h1, if_pos h2]; rfl) | (rw [cmpI, if_neg h1, if_neg h2]; rfl)⟩, (List.nil_sublist _), (by simp)⟩

theorem at1_ok (a b : Ev) : AC Try.prog 46 [.agg (Ev.cs a), .agg (Ev.cs b)] [] (fun r n => n = [] ∧ r = .v (.int .i64 (cmpI a.moment b.moment))) := by
  refine ac_of_awp (rs := [4]) (nt := 10) Try.func46 rfl rfl rfl rfl (fun w0 C0 hq => ?_)
  refine awp_seq ?_
  refine awp_region ?_
  refine r_box rfl rfl rfl (fun b2 => ?_)
  refine r_box rfl rfl rfl (fun b3 => ?_)
  refine r_assign rfl rfl ?_
  refine awl_nil ?_
  refine x_then ?_
  refine awp_seq ?_
  refine awp_region ?_
  first | (refine r_fieldb rfl TF.f46_0 TF.sz30 rfl ?_) | (refine r_fieldcp rfl TF.f46_0 TF.sz30 rfl ?_)
  refine r_load1b 1 rfl rfl rfl TF.agg30 rfl ?_
  first | (refine r_fieldb rfl TF.f46_0 TF.sz30 rfl ?_) | (refine r_fieldcp rfl TF.f46_0 TF.sz30 rfl ?_)
  refine r_load1b 0 rfl rfl rfl TF.agg30 rfl ?_
  refine r_call0 hq rfl rfl (.cons (.ev rfl rfl) (.cons (.ev rfl rfl) .nil)) (cmp_ok a.moment b.moment) rfl TF.en47 rfl (fun r hr => ?_)
  obtain rfl := hr
  refine r_assign rfl rfl ?_
  refine awl_nil ?_
  refine x_then ?_
  refine awp_ret ?_
  exact ⟨(.inl rfl), _, [], (.one (by first | exact .mk rfl rfl | exact .nil rfl)), ⟨rfl, rfl⟩, (List.nil_sublist _), (by simp)⟩

theorem sorted_ok (l : List Ev) (hl : l.length ≤ 1000000) : AC Try.prog 45 [evsA l, .fn 46 []] [] (fun r n => n = [] ∧ r = boolA (sortedE l)) := by
  refine ac_of_awp (rs := [4]) (nt := 25) Try.func45 rfl rfl rfl rfl (fun w0 C0 hq => ?_)
  refine awp_seq ?_
  refine awp_region ?_
  refine r_assign rfl rfl ?_
  refine awl_nil ?_
  refine x_then ?_
  refine awp_seq ?_
  refine awp_seq ?_
  refine awp_region ?_
  refine r_move rfl rfl ?_
  first | (refine r_lenS rfl rfl TF.sl28 rfl ?_) | (refine r_lenNil rfl TF.sl28 rfl ?_) | (refine r_lenV rfl TF.sl28 rfl ?_)
  refine r_ari _ rfl rfl rfl (wrap_id (by first | omega | (simp; omega))) rfl ?_
  refine r_assign rfl rfl ?_
  refine awl_nil ?_
  refine x_then ?_
  refine awp_block ?_
  refine awp_loop (fun nn0 S => ∃ i : Nat, S = ⟨25, [(0, .a (evsA l)), (1, .a (.fn 46 [])), (5, .a (.v (.int .i64 ((i : Int) - 1))))], []⟩ ∧ nn0 = i + 1 ∧ (i ≤ l.length) ∧ (∀ j, 0 < j → i ≤ j → j < l.length → ∀ x y, l[j - 1]? = some x → l[j]? = some y → x.moment ≤ y.moment)) ((l.length) + 1) ⟨25, [(0, .a (evsA l)), (1, .a (.fn 46 [])), (5, .a (.v (.int .i64 (((l.length) : Int) - 1))))], []⟩ ⟨rfl, (Slots.cons rfl (by first | exact .refl _ | exact .nilOwn _ _ | exact .nilSl _ | exact .ownSl _ _ _  | exact SV.le.ownEq (by simp) | exact SV.le.of_eq (by simp)) (Slots.cons rfl (by first | exact .refl _ | exact .nilOwn _ _ | exact .nilSl _ | exact .ownSl _ _ _  | exact SV.le.ownEq (by simp) | exact SV.le.of_eq (by simp)) (Slots.cons rfl (by first | exact .refl _ | exact .nilOwn _ _ | exact .nilSl _ | exact .ownSl _ _ _  | exact SV.le.ownEq (by simp) | exact SV.le.of_eq (by simp)) Slots.nil))), (by first | exact List.Sublist.refl _ | exact .cons_cons _ (.cons _ (.refl _)) | exact List.nil_sublist _ | exact .cons _ (.refl _) | exact .cons _ (.cons _ (.refl _)) | exact .cons _ (.cons _ (.cons _ (.refl _))) | exact .cons _ (.cons _ (.cons _ (.cons _ (.refl _)))) | exact .cons_cons _ (List.nil_sublist _))⟩ ⟨l.length, rfl, rfl, (Nat.le_refl _), (fun j _ h1 h2 => by omega)⟩ ?_
  rintro nn0 _ ⟨i, rfl, rfl, hi, hall⟩
  refine awp_seq ?_
  refine awp_seq ?_
  refine awp_region ?_
  refine r_move rfl rfl ?_
  refine r_cmp rfl rfl rfl rfl ?_
  refine awl_nil ?_
  refine x_then ?_
  refine awp_cond rfl (fun hc0 => ?_) (fun hc0 => ?_)
  ·
    have hi1 : 1 < i := by have := of_decide_eq_true hc0; omega
    obtain ⟨p, rfl⟩ : ∃ p, i = p + 1 := ⟨i - 1, by omega⟩
    obtain ⟨x, hx⟩ := get_lt (show p < l.length by omega)
    obtain ⟨y, hy⟩ := get_lt (show p - 1 < l.length by omega)
    refine awp_skip ?_
    refine x_then ?_
    refine awp_seq ?_
    refine awp_block ?_
    refine awp_seq ?_
    refine awp_drawS [13, 14, 15, 16, 17, 18, 19, 20, 21, 22] [_, _, _, _, _, _, _, _, _, _] [] [] TF.mixed rfl rfl rfl ⟨⟨⟨⟨⟨⟨⟨⟨⟨⟨trivial
      , ⟨_, rfl, fun sl hd hr ho => by
          refine r_move (hr 1 _ rfl rfl rfl) rfl ?_
          exact awl_nil ⟨rfl, post_put⟩⟩⟩
      , ⟨_, rfl, fun sl hd hr ho => by
          refine r_move (hr 0 _ rfl rfl rfl) rfl ?_
          exact awl_nil ⟨rfl, post_put⟩⟩⟩
      , ⟨_, rfl, fun sl hd hr ho => by
          refine r_move (hr 5 _ rfl rfl rfl) rfl ?_
          exact awl_nil ⟨rfl, post_put⟩⟩⟩
      , ⟨_, rfl, fun sl hd hr ho => by
          refine r_index (hd 1 _ rfl rfl rfl) rfl (hd 2 _ rfl rfl rfl) TF.sl28 TF.sz46 (by omega) (by rw [show (((p + 1 : Nat) : Int) - 1).toNat = p by omega]; exact get_map hx) rfl ?_
          exact awl_nil ⟨rfl, post_put⟩⟩⟩
      , ⟨_, rfl, fun sl hd hr ho => by
          refine r_loadA (hd 3 _ rfl rfl rfl) TF.agg46 TF.sz46 rfl rfl ?_
          exact awl_nil ⟨rfl, post_put⟩⟩⟩
      , ⟨_, rfl, fun sl hd hr ho => by
          refine r_move (hr 0 _ rfl rfl rfl) rfl ?_
          exact awl_nil ⟨rfl, post_put⟩⟩⟩
      , ⟨_, rfl, fun sl hd hr ho => by
          refine r_move (hr 5 _ rfl rfl rfl) rfl ?_
          exact awl_nil ⟨rfl, post_put⟩⟩⟩
      , ⟨_, rfl, fun sl hd hr ho => by
          refine r_ari _ (hd 6 _ rfl rfl rfl) rfl rfl (wrap_id (by first | omega | (simp; omega))) rfl ?_
          exact awl_nil ⟨rfl, post_put⟩⟩⟩
      , ⟨_, rfl, fun sl hd hr ho => by
          refine r_index (hd 5 _ rfl rfl rfl) rfl (hd 7 _ rfl rfl rfl) TF.sl28 TF.sz46 (by omega) (by rw [show (((p + 1 : Nat) : Int) - 1 - 1).toNat = p - 1 by omega]; exact get_map hy) rfl ?_
          exact awl_nil ⟨rfl, post_put⟩⟩⟩
      , ⟨_, rfl, fun sl hd hr ho => by
          refine r_loadA (hd 8 _ rfl rfl rfl) TF.agg46 TF.sz46 rfl rfl ?_
          exact awl_nil ⟨rfl, post_put⟩⟩⟩
      (by rfl) ?_
    refine r_call0 hq rfl rfl (.cons (.ev rfl rfl) (.cons (.ev rfl rfl) .nil)) (at1_ok x y) rfl TF.en46 rfl (fun r hr => ?_)
    obtain rfl := hr
    refine r_cmp rfl rfl rfl rfl ?_
    refine awl_nil ?_
    refine x_then ?_
    refine awp_cond rfl (fun hc1 => ?_) (fun hc1 => ?_)
    ·
      have hlt := cmp_neg (of_decide_eq_true hc1)
      have hbad := sorted_bad (i := p) (by omega) hy hx hlt
      refine awp_seq ?_
      refine awp_region ?_
      refine r_assign rfl rfl ?_
      refine awl_nil ?_
      refine x_then ?_
      refine awp_ret ?_
      refine x_blockR ?_
      refine x_thenR ?_
      refine x_thenR ?_
      refine x_blockR ?_
      refine x_thenR ?_
      exact ⟨(.inl rfl), _, [], (.one (by first | exact .mk rfl rfl | exact .nil rfl)), ⟨rfl, by rw [hbad]; rfl⟩, (List.nil_sublist _), (by simp)⟩
    ·
      have hnl : ¬ cmpI x.moment y.moment < 0 := of_decide_eq_false hc1
      refine awp_skip ?_
      refine x_block ?_
      refine x_then ?_
      refine awp_region ?_
      refine r_move rfl rfl ?_
      refine r_ari _ rfl rfl rfl (wrap_id (by first | omega | (simp; omega))) rfl ?_
      refine r_assign rfl rfl ?_
      refine awl_nil ?_
      refine x_then ?_
      refine ⟨(p) + 1, ⟨25, [(0, .a (evsA l)), (1, .a (.fn 46 [])), (5, .a (.v (.int .i64 (((p) : Int) - 1))))], []⟩, ⟨rfl, (Slots.cons rfl (by first | exact .refl _ | exact .nilOwn _ _ | exact .nilSl _ | exact .ownSl _ _ _  | exact SV.le.ownEq (by first | rfl | (rw [show ((p + 1 : Nat) : Int) - 1 - 1 = (p : Int) - 1 by omega])) | exact SV.le.of_eq (by first | rfl | (rw [show ((p + 1 : Nat) : Int) - 1 - 1 = (p : Int) - 1 by omega]))) (Slots.cons rfl (by first | exact .refl _ | exact .nilOwn _ _ | exact .nilSl _ | exact .ownSl _ _ _  | exact SV.le.ownEq (by first | rfl | (rw [show ((p + 1 : Nat) : Int) - 1 - 1 = (p : Int) - 1 by omega])) | exact SV.le.of_eq (by first | rfl | (rw [show ((p + 1 : Nat) : Int) - 1 - 1 = (p : Int) - 1 by omega]))) (Slots.cons rfl (by first | exact .refl _ | exact .nilOwn _ _ | exact .nilSl _ | exact .ownSl _ _ _  | exact SV.le.ownEq (by first | rfl | (rw [show ((p + 1 : Nat) : Int) - 1 - 1 = (p : Int) - 1 by omega])) | exact SV.le.of_eq (by first | rfl | (rw [show ((p + 1 : Nat) : Int) - 1 - 1 = (p : Int) - 1 by omega]))) Slots.nil))), (by first | exact List.Sublist.refl _ | exact .cons_cons _ (.cons _ (.refl _)) | exact List.nil_sublist _ | exact .cons _ (.refl _) | exact .cons _ (.cons _ (.refl _)) | exact .cons _ (.cons _ (.cons _ (.refl _))) | exact .cons _ (.cons _ (.cons _ (.cons _ (.refl _)))) | exact .cons_cons _ (List.nil_sublist _))⟩, (by omega), ⟨p, rfl, rfl, (by omega), (fun j h0 h1 h2 x' y' hx' hy' => by rcases Nat.lt_or_ge j (p + 1) with h | h; (obtain rfl : j = p := by omega); rw [hy] at hx'; rw [hx] at hy'; cases hx'; cases hy'; exact cmp_nneg hnl; exact hall j h0 h h2 x' y' hx' hy')⟩⟩
  ·
    have hi1 : ¬ 1 < i := by have := of_decide_eq_false hc0; omega
    refine awp_exit ?_
    refine x_thenE ?_
    refine x_thenE ?_
    refine x_blockE ?_
    refine x_then ?_
    refine awp_seq ?_
    refine awp_region ?_
    refine r_assign rfl rfl ?_
    refine awl_nil ?_
    refine x_then ?_
    refine awp_ret ?_
    exact ⟨(.inl rfl), _, [], (.one (by first | exact .mk rfl rfl | exact .nil rfl)), ⟨rfl, by rw [sorted_good (fun j h0 h1 => hall j h0 (by omega) h1)]; rfl⟩, (List.nil_sublist _), (by simp)⟩

set_option maxHeartbeats 2000000 in
theorem tat_ok (l : List Ev) (mo : Int) (hl : l.length ≤ 100) (hb : ∀ e ∈ l, BndC e.ch) : AC Try.prog 23 [evsA l, .v (.int .u64 mo)] [] (fun r n => n = [] ∧ r = .tup [files (AtF l mo).2, .v (.int .i64 (AtF l mo).1)]) := by
  refine ac_of_awp (rs := [4, 5]) (nt := 73) Try.func23 rfl rfl rfl rfl (fun w0 C0 hq => ?_)
  refine awp_seq ?_
  refine awp_region ?_
  refine r_assign rfl rfl ?_
  first | refine awl_imp (imp_le 4 (x := .a (files [])) rfl (.nilSl _)) ?_ | skip
  refine r_assign rfl rfl ?_
  refine awl_nil ?_
  refine x_then ?_
  refine awp_seq ?_
  refine awp_seq ?_
  refine awp_region ?_
  refine r_move rfl rfl ?_
  refine r_call0 hq rfl rfl (.cons (.ev rfl rfl) (.cons (.ev rfl rfl) .nil)) (sorted_ok l (by omega)) rfl TF.en45 rfl (fun r hr => ?_)
  obtain rfl := hr
  refine r_not rfl rfl ?_
  refine awl_nil ?_
  refine x_then ?_
  refine awp_cond rfl (fun hc0 => ?_) (fun hc0 => ?_)
  ·
    have hns : sortedE l = false := by simpa using hc0
    refine awp_seq ?_
    refine awp_region ?_
    refine r_assign rfl rfl ?_
    first | refine awl_imp (imp_le 4 (x := .a (files [])) rfl (.nilSl _)) ?_ | skip
    refine r_assign rfl rfl ?_
    refine awl_nil ?_
    refine x_then ?_
    refine awp_ret ?_
    refine x_thenR ?_
    exact ⟨(.inl rfl), _, [], (.two (by first | exact .mk rfl rfl | exact .nil rfl) (by first | exact .mk rfl rfl | exact .nil rfl)), ⟨rfl, by first | (rw [show AtF l mo = (15, []) from by unfold AtF; rw [hns]; rfl]; rfl) | (rw [hdone]; rfl) | (rw [show AtF l mo = (ec, []) from by rw [hin]; exact at_bad1 hle (by rw [← hnr]; exact ha) hne]; rfl)⟩, (List.nil_sublist _), (by simp)⟩
  ·
    have hss : sortedE l = true := by simpa using hc0
    refine awp_skip ?_
    refine x_then ?_
    refine awp_seq ?_
    refine awp_region ?_
    refine r_assign rfl rfl ?_
    refine awl_nil ?_
    refine x_then ?_
    refine awp_seq ?_
    refine awp_block ?_
    refine awp_loop (fun nn0 S => ∃ l2 : List Ev, ∃ fs : List File, S = ⟨73, [(0, .a (evsA l2)), (1, .a (.v (.int .u64 (mo)))), (6, .a (files fs))], []⟩ ∧ nn0 = l2.length ∧ (AtF l mo = atLoop l2.length fs l2 mo) ∧ (∀ e ∈ l2, e ∈ l) ∧ (BndL fs) ∧ (fs.length + l2.length ≤ l.length)) ((l).length) ⟨73, [(0, .a (evsA (l))), (1, .a (.v (.int .u64 (mo)))), (6, .a (files ([])))], []⟩ ⟨rfl, (Slots.cons rfl (by first | exact .refl _ | exact .nilOwn _ _ | exact .nilSl _ | exact .ownSl _ _ _  | exact SV.le.of_eq (by simp)) (Slots.cons rfl (by first | exact .refl _ | exact .nilOwn _ _ | exact .nilSl _ | exact .ownSl _ _ _  | exact SV.le.of_eq (by simp)) (Slots.cons rfl (by first | exact .refl _ | exact .nilOwn _ _ | exact .nilSl _ | exact .ownSl _ _ _  | exact SV.le.of_eq (by simp)) Slots.nil))), (by first | exact List.Sublist.refl _ | exact .cons_cons _ (.cons _ (.refl _)) | exact List.nil_sublist _ | exact .cons _ (.refl _) | exact .cons _ (.cons _ (.refl _)) | exact .cons _ (.cons _ (.cons _ (.refl _))) | exact .cons _ (.cons _ (.cons _ (.cons _ (.refl _)))) | exact .cons_cons _ (List.nil_sublist _))⟩ ⟨l, [], rfl, rfl, (by unfold AtF; rw [if_pos hss]), (fun e h => h), (fun f hf => by simp at hf), (by simp)⟩ ?_
    rintro nn0 _ ⟨l2, fs, rfl, rfl, hin, hsub, hfb, hfl⟩
    refine awp_seq ?_
    refine awp_seq ?_
    refine awp_region ?_
    refine r_move rfl rfl ?_
    first | (refine r_lenS rfl rfl TF.sl28 rfl ?_) | (refine r_lenNil rfl TF.sl28 rfl ?_) | (refine r_lenV rfl TF.sl28 rfl ?_)
    refine r_cmp rfl rfl rfl rfl ?_
    refine r_move rfl rfl ?_
    refine g_cases (t' := 19) rfl (fun hg19 => ?_) (fun hg19 => ?_)
    ·
      have h0 := of_decide_eq_true hg19
      obtain ⟨e, r, rfl⟩ : ∃ e r, l2 = e :: r := by cases l2 with | nil => simp at h0 | cons e r => exact ⟨e, r, rfl⟩
      refine g_run rfl rfl hg19 ?_
      refine r_move rfl rfl ?_
      refine g_run rfl rfl hg19 ?_
      refine r_index rfl rfl rfl TF.sl28 TF.sz46 (by simp) rfl rfl ?_
      refine g_run rfl rfl hg19 ?_
      first | (refine r_fieldb rfl TF.f46_0 TF.sz30 rfl ?_) | (refine r_fieldcp rfl TF.f46_0 TF.sz30 rfl ?_)
      refine g_run rfl rfl hg19 ?_
      refine r_load1 rfl TF.agg30 rfl ?_
      refine g_run rfl rfl hg19 ?_
      refine r_move rfl rfl ?_
      refine g_run rfl rfl hg19 ?_
      refine r_cmp rfl rfl rfl rfl ?_
      refine r_pickT rfl hg19 rfl rfl ?_
      refine awl_nil ?_
      refine x_then ?_
      refine awp_cond rfl (fun hc1 => ?_) (fun hc1 => ?_)
      ·
        have hle : e.moment ≤ mo := of_decide_eq_true hc1
        have hll : (e :: r).length ≤ 100 := by simp at hfl ⊢; omega
        refine awp_skip ?_
        refine x_then ?_
        refine awp_block ?_
        refine awp_seq ?_
        refine awp_region ?_
        refine r_assign rfl rfl ?_
        refine awl_nil ?_
        refine x_then ?_
        refine awp_seq ?_
        refine awp_block ?_
        refine awp_loop (fun nn0 S => ∃ n : Nat, S = ⟨73, [(0, .a (evsA (e :: r))), (1, .a (.v (.int .u64 (mo)))), (6, .a (files fs)), (7, .a (.v (.int .i64 ((n : Int)))))], []⟩ ∧ nn0 = (e :: r).length - n ∧ (0 < n) ∧ (n ≤ runF (e :: r))) ((e :: r).length - (1)) ⟨73, [(0, .a (evsA (e :: r))), (1, .a (.v (.int .u64 (mo)))), (6, .a (files fs)), (7, .a (.v (.int .i64 (((1) : Int)))))], []⟩ ⟨rfl, (Slots.cons rfl (by first | exact .refl _ | exact .nilOwn _ _ | exact .nilSl _ | exact .ownSl _ _ _  | exact SV.le.of_eq (by simp)) (Slots.cons rfl (by first | exact .refl _ | exact .nilOwn _ _ | exact .nilSl _ | exact .ownSl _ _ _  | exact SV.le.of_eq (by simp)) (Slots.cons rfl (by first | exact .refl _ | exact .nilOwn _ _ | exact .nilSl _ | exact .ownSl _ _ _  | exact SV.le.of_eq (by simp)) (Slots.cons rfl (by first | exact .refl _ | exact .nilOwn _ _ | exact .nilSl _ | exact .ownSl _ _ _  | exact SV.le.of_eq (by simp)) Slots.nil)))), (by first | exact List.Sublist.refl _ | exact .cons_cons _ (.cons _ (.refl _)) | exact List.nil_sublist _ | exact .cons _ (.refl _) | exact .cons _ (.cons _ (.refl _)) | exact .cons _ (.cons _ (.cons _ (.refl _))) | exact .cons _ (.cons _ (.cons _ (.cons _ (.refl _)))) | exact .cons_cons _ (List.nil_sublist _))⟩ ⟨1, rfl, rfl, (by omega), run_pos⟩ ?_
        rintro nn0 _ ⟨n, rfl, rfl, hn0, hnr0⟩
        refine awp_seq ?_
        refine awp_seq ?_
        rcases Bool.eq_false_or_eq_true (decide ((n : Int) < (((e :: r).map Ev.cs).length : Int))) with hg31 | hg31
        ·
          have hltx : n < (e :: r).length := by have := of_decide_eq_true hg31; rw [List.length_map] at this; omega
          obtain ⟨x, hx⟩ := get_lt hltx
          refine awp_drawS [27, 28, 29, 30, 31, 32, 33, 34, 35, 36, 37, 38, 39, 40] [_, _, _, _, _, _, _, _, _, _, _, _, _, _] [] [] TF.mixed rfl rfl rfl ⟨⟨⟨⟨⟨⟨⟨⟨⟨⟨⟨⟨⟨⟨trivial
            , ⟨_, rfl, fun sl hd hr ho => by
                refine r_move (hr 7 _ rfl rfl rfl) rfl ?_
                exact awl_nil ⟨rfl, post_put⟩⟩⟩
            , ⟨_, rfl, fun sl hd hr ho => by
                refine r_move (hr 0 _ rfl rfl rfl) rfl ?_
                exact awl_nil ⟨rfl, post_put⟩⟩⟩
            , ⟨_, rfl, fun sl hd hr ho => by
                first | (refine r_lenS (hd 1 _ rfl rfl rfl) rfl TF.sl28 rfl ?_) | (refine r_lenNil (hd 1 _ rfl rfl rfl) TF.sl28 rfl ?_) | (refine r_lenV (hd 1 _ rfl rfl rfl) TF.sl28 rfl ?_)
                exact awl_nil ⟨rfl, post_put⟩⟩⟩
            , ⟨_, rfl, fun sl hd hr ho => by
                refine r_cmp (hd 0 _ rfl rfl rfl) (hd 2 _ rfl rfl rfl) rfl rfl ?_
                exact awl_nil ⟨rfl, post_put⟩⟩⟩
            , ⟨_, rfl, fun sl hd hr ho => by
                refine r_move (hd 3 _ rfl rfl rfl) rfl ?_
                exact awl_nil ⟨rfl, post_put⟩⟩⟩
            , ⟨_, rfl, fun sl hd hr ho => by
                refine g_run rfl (hd 4 _ rfl rfl rfl) hg31 ?_
                refine r_move (hr 0 _ rfl rfl rfl) rfl ?_
                exact awl_nil ⟨rfl, post_put⟩⟩⟩
            , ⟨_, rfl, fun sl hd hr ho => by
                refine g_run rfl (hd 4 _ rfl rfl rfl) hg31 ?_
                refine r_move (hr 7 _ rfl rfl rfl) rfl ?_
                exact awl_nil ⟨rfl, post_put⟩⟩⟩
            , ⟨_, rfl, fun sl hd hr ho => by
                refine g_run rfl (hd 4 _ rfl rfl rfl) hg31 ?_
                refine r_index (hd 5 _ rfl rfl rfl) rfl (hd 6 _ rfl rfl rfl) TF.sl28 TF.sz46 (by omega) (get_map hx) rfl ?_
                exact awl_nil ⟨rfl, post_put⟩⟩⟩
            , ⟨_, rfl, fun sl hd hr ho => by
                refine g_run rfl (hd 4 _ rfl rfl rfl) hg31 ?_
                first | (refine r_fieldb (hd 7 _ rfl rfl rfl) TF.f46_0 TF.sz30 rfl ?_) | (refine r_fieldcp (hd 7 _ rfl rfl rfl) TF.f46_0 TF.sz30 rfl ?_)
                exact awl_nil ⟨rfl, post_put⟩⟩⟩
            , ⟨_, rfl, fun sl hd hr ho => by
                refine g_run rfl (hd 4 _ rfl rfl rfl) hg31 ?_
                refine r_load1 (hd 8 _ rfl rfl rfl) TF.agg30 rfl ?_
                exact awl_nil ⟨rfl, post_put⟩⟩⟩
            , ⟨_, rfl, fun sl hd hr ho => by
                refine g_run rfl (hd 4 _ rfl rfl rfl) hg31 ?_
                refine r_move (hr 0 _ rfl rfl rfl) rfl ?_
                exact awl_nil ⟨rfl, post_put⟩⟩⟩
            , ⟨_, rfl, fun sl hd hr ho => by
                refine g_run rfl (hd 4 _ rfl rfl rfl) hg31 ?_
                refine r_index (hd 10 _ rfl rfl rfl) rfl rfl TF.sl28 TF.sz46 (by simp) rfl rfl ?_
                exact awl_nil ⟨rfl, post_put⟩⟩⟩
            , ⟨_, rfl, fun sl hd hr ho => by
                refine g_run rfl (hd 4 _ rfl rfl rfl) hg31 ?_
                first | (refine r_fieldb (hd 11 _ rfl rfl rfl) TF.f46_0 TF.sz30 rfl ?_) | (refine r_fieldcp (hd 11 _ rfl rfl rfl) TF.f46_0 TF.sz30 rfl ?_)
                exact awl_nil ⟨rfl, post_put⟩⟩⟩
            , ⟨_, rfl, fun sl hd hr ho => by
                refine g_run rfl (hd 4 _ rfl rfl rfl) hg31 ?_
                refine r_load1 (hd 12 _ rfl rfl rfl) TF.agg30 rfl ?_
                exact awl_nil ⟨rfl, post_put⟩⟩⟩
            (by rfl) ?_
          refine g_run rfl rfl hg31 ?_
          refine r_cmp rfl rfl rfl rfl ?_
          refine r_pickT rfl hg31 rfl rfl ?_
          refine awl_nil ?_
          refine x_then ?_
          refine awp_cond rfl (fun hc2 => ?_) (fun hc2 => ?_)
          ·
            have hlt : n < runF (e :: r) := by have h := run_at hx hn0 hnr0; rw [hc2] at h; exact of_decide_eq_true h.symm
            have hrl := run_len (e :: r)
            refine awp_skip ?_
            refine x_then ?_
            refine awp_block ?_
            refine awp_region ?_
            refine r_move rfl rfl ?_
            refine r_ari _ rfl rfl rfl (wrap_id (by first | omega | (simp; omega))) rfl ?_
            refine r_assign rfl rfl ?_
            refine awl_nil ?_
            refine x_block ?_
            refine x_then ?_
            refine ⟨(e :: r).length - (n + 1), ⟨73, [(0, .a (evsA (e :: r))), (1, .a (.v (.int .u64 (mo)))), (6, .a (files fs)), (7, .a (.v (.int .i64 (((n + 1) : Int)))))], []⟩, ⟨rfl, (Slots.cons rfl (by first | exact .refl _ | exact .nilOwn _ _ | exact .nilSl _ | exact .ownSl _ _ _  | exact SV.le.of_eq (by simp)) (Slots.cons rfl (by first | exact .refl _ | exact .nilOwn _ _ | exact .nilSl _ | exact .ownSl _ _ _  | exact SV.le.of_eq (by simp)) (Slots.cons rfl (by first | exact .refl _ | exact .nilOwn _ _ | exact .nilSl _ | exact .ownSl _ _ _  | exact SV.le.of_eq (by simp)) (Slots.cons rfl (by first | exact .refl _ | exact .nilOwn _ _ | exact .nilSl _ | exact .ownSl _ _ _  | exact SV.le.of_eq (by simp)) Slots.nil)))), (by first | exact List.Sublist.refl _ | exact .cons_cons _ (.cons _ (.refl _)) | exact List.nil_sublist _ | exact .cons _ (.refl _) | exact .cons _ (.cons _ (.refl _)) | exact .cons _ (.cons _ (.cons _ (.refl _))) | exact .cons _ (.cons _ (.cons _ (.cons _ (.refl _)))) | exact .cons_cons _ (List.nil_sublist _))⟩, (by omega), ⟨n + 1, rfl, rfl, (by omega), (by omega)⟩⟩
          ·
            have hnr : n = runF (e :: r) := by first | exact hnr | (have h := run_at hx hn0 hnr0; rw [hc2] at h; have := of_decide_eq_false h.symm; omega)
            have hrl := run_len (e :: r)
            have hgl : ((e :: r).take n).length = n := by rw [List.length_take]; omega
            have hdb : ∀ c ∈ ((e :: r).take n).map (·.ch), BndC c := fun c hc => by obtain ⟨x, hx, rfl⟩ := List.mem_map.1 hc; exact hb x (hsub x (List.mem_of_mem_take hx))
            refine awp_exit ?_
            refine x_thenE ?_
            refine x_thenE ?_
            refine x_blockE ?_
            refine x_then ?_
            refine awp_seq ?_
            refine awp_region ?_
            refine r_assign rfl rfl ?_
            refine awl_nil ?_
            refine x_then ?_
            refine awp_seq ?_
            refine awp_seq ?_
            refine awp_region ?_
            refine r_move rfl rfl ?_
            refine r_move rfl rfl ?_
            refine r_sliceHe (((e :: r).take n).map Ev.cs) (by simp [List.map_take]) rfl rfl rfl TF.sl28 TF.sz46 (by omega) (by simp; simp at hrl; omega) rfl ?_
            first | (refine r_lenS rfl rfl TF.sl28 rfl ?_) | (refine r_lenNil rfl TF.sl28 rfl ?_) | (refine r_lenV rfl TF.sl28 rfl ?_)
            refine r_move rfl rfl ?_
            refine awl_nil ?_
            refine x_then ?_
            refine awp_block ?_
            refine awp_loop (fun nn0 S => ∃ k : Nat, S = ⟨73, [(0, .a (evsA (e :: r))), (1, .a (.v (.int .u64 (mo)))), (6, .a (files fs)), (7, .a (.v (.int .i64 ((n : Int))))), (8, .own 8 4 (((((e :: r).take n).take k).map (·.ch)).map FC.cs)), (47, .a (evsA ((e :: r).take n))), (48, .a (.v (.int .i64 ((((e :: r).take n).map Ev.cs).length)))), (49, .a (.v (.int .i64 ((k : Int)))))], []⟩ ∧ nn0 = ((e :: r).take n).length - k ∧ (k ≤ ((e :: r).take n).length)) (((e :: r).take n).length - (0)) ⟨73, [(0, .a (evsA (e :: r))), (1, .a (.v (.int .u64 (mo)))), (6, .a (files fs)), (7, .a (.v (.int .i64 ((n : Int))))), (8, .own 8 4 (((((e :: r).take n).take (0)).map (·.ch)).map FC.cs)), (47, .a (evsA ((e :: r).take n))), (48, .a (.v (.int .i64 ((((e :: r).take n).map Ev.cs).length)))), (49, .a (.v (.int .i64 (((0) : Int)))))], []⟩ ⟨rfl, (Slots.cons rfl (by first | exact .refl _ | exact .nilOwn _ _ | exact .nilSl _ | exact .ownSl _ _ _  | exact SV.le.of_eq (by simp)) (Slots.cons rfl (by first | exact .refl _ | exact .nilOwn _ _ | exact .nilSl _ | exact .ownSl _ _ _  | exact SV.le.of_eq (by simp)) (Slots.cons rfl (by first | exact .refl _ | exact .nilOwn _ _ | exact .nilSl _ | exact .ownSl _ _ _  | exact SV.le.of_eq (by simp)) (Slots.cons rfl (by first | exact .refl _ | exact .nilOwn _ _ | exact .nilSl _ | exact .ownSl _ _ _  | exact SV.le.of_eq (by simp)) (Slots.cons rfl (by first | exact .refl _ | exact .nilOwn _ _ | exact .nilSl _ | exact .ownSl _ _ _  | exact SV.le.of_eq (by simp)) (Slots.cons rfl (by first | exact .refl _ | exact .nilOwn _ _ | exact .nilSl _ | exact .ownSl _ _ _  | exact SV.le.of_eq (by simp)) (Slots.cons rfl (by first | exact .refl _ | exact .nilOwn _ _ | exact .nilSl _ | exact .ownSl _ _ _  | exact SV.le.of_eq (by simp)) (Slots.cons rfl (by first | exact .refl _ | exact .nilOwn _ _ | exact .nilSl _ | exact .ownSl _ _ _  | exact SV.le.of_eq (by simp)) Slots.nil)))))))), (by first | exact List.Sublist.refl _ | exact .cons_cons _ (.cons _ (.refl _)) | exact List.nil_sublist _ | exact .cons _ (.refl _) | exact .cons _ (.cons _ (.refl _)) | exact .cons _ (.cons _ (.cons _ (.refl _))) | exact .cons _ (.cons _ (.cons _ (.cons _ (.refl _)))) | exact .cons_cons _ (List.nil_sublist _))⟩ ⟨0, rfl, rfl, Nat.zero_le _⟩ ?_
            rintro nn0 _ ⟨k, rfl, rfl, hk⟩
            refine awp_seq ?_
            refine awp_region ?_
            refine r_cmp rfl rfl rfl rfl ?_
            refine awl_nil ?_
            refine x_then ?_
            refine awp_seq ?_
            refine awp_cond rfl (fun hc3 => ?_) (fun hc3 => ?_)
            ·
              have hltx : k < ((e :: r).take n).length := by have := of_decide_eq_true hc3; rw [List.length_map] at this; omega
              obtain ⟨x, hx⟩ := get_lt hltx
              refine awp_skip ?_
              refine x_then ?_
              refine awp_seq ?_
              refine awp_block ?_
              refine awp_seq ?_
              refine awp_region ?_
              refine r_index rfl rfl rfl TF.sl28 TF.sz46 (by omega) (get_map hx) rfl ?_
              refine r_loadA rfl TF.agg46 TF.sz46 rfl rfl ?_
              refine r_alloc TF.zero46 rfl (fun b10 => ?_)
              refine r_store 0 rfl rfl rfl TF.sz46 rfl rfl rfl ?_
              refine awl_nil ?_
              refine x_then ?_
              refine awp_region ?_
              refine r_move rfl rfl ?_
              first | (refine r_fieldb rfl TF.f46_1 TF.sz44 rfl ?_) | (refine r_fieldcp rfl TF.f46_1 TF.sz44 rfl ?_)
              refine r_loadAb 0 rfl rfl TF.agg44 TF.sz44 rfl rfl ?_
              refine r_lit 56 (parts := [(0, .tmp 55)]) rfl TF.sl39 TF.sz44 TF.zraw44 rfl rfl rfl rfl rfl rfl rfl ?_
              refine r_append 8 rfl (by first | exact .own _ | exact .nil) rfl (by first | exact .sl _ | exact .own _ _ | exact .nil) TF.sl39 TF.sz44 (by decide) TF.by44 TF.zlen44 (by simp [chunks] <;> omega) (by simp [chunks] <;> omega) rfl ?_
              refine r_assign rfl rfl ?_
              refine awl_nil ?_
              refine x_block ?_
              refine x_then ?_
              refine awp_region ?_
              refine r_ari _ rfl rfl rfl (wrap_id (by first | omega | (simp; omega))) rfl ?_
              refine r_move rfl rfl ?_
              refine awl_nil ?_
              refine x_then ?_
              refine ⟨((e :: r).take n).length - (k + 1), ⟨73, [(0, .a (evsA (e :: r))), (1, .a (.v (.int .u64 (mo)))), (6, .a (files fs)), (7, .a (.v (.int .i64 ((n : Int))))), (8, .own 8 4 (((((e :: r).take n).take (k + 1)).map (·.ch)).map FC.cs)), (47, .a (evsA ((e :: r).take n))), (48, .a (.v (.int .i64 ((((e :: r).take n).map Ev.cs).length)))), (49, .a (.v (.int .i64 (((k + 1) : Int)))))], []⟩, ⟨rfl, (Slots.cons rfl (by first | exact .refl _ | exact .nilOwn _ _ | exact .nilSl _ | exact .ownSl _ _ _  | exact SV.le.ownEq (by first | rfl | (rw [map_take hx, List.map_append]; rfl)) | exact SV.le.of_eq (by first | rfl | (rw [map_take hx, List.map_append]; rfl))) (Slots.cons rfl (by first | exact .refl _ | exact .nilOwn _ _ | exact .nilSl _ | exact .ownSl _ _ _  | exact SV.le.ownEq (by first | rfl | (rw [map_take hx, List.map_append]; rfl)) | exact SV.le.of_eq (by first | rfl | (rw [map_take hx, List.map_append]; rfl))) (Slots.cons rfl (by first | exact .refl _ | exact .nilOwn _ _ | exact .nilSl _ | exact .ownSl _ _ _  | exact SV.le.ownEq (by first | rfl | (rw [map_take hx, List.map_append]; rfl)) | exact SV.le.of_eq (by first | rfl | (rw [map_take hx, List.map_append]; rfl))) (Slots.cons rfl (by first | exact .refl _ | exact .nilOwn _ _ | exact .nilSl _ | exact .ownSl _ _ _  | exact SV.le.ownEq (by first | rfl | (rw [map_take hx, List.map_append]; rfl)) | exact SV.le.of_eq (by first | rfl | (rw [map_take hx, List.map_append]; rfl))) (Slots.cons rfl (by first | exact .refl _ | exact .nilOwn _ _ | exact .nilSl _ | exact .ownSl _ _ _  | exact SV.le.ownEq (by first | rfl | (rw [map_take hx, List.map_append]; rfl)) | exact SV.le.of_eq (by first | rfl | (rw [map_take hx, List.map_append]; rfl))) (Slots.cons rfl (by first | exact .refl _ | exact .nilOwn _ _ | exact .nilSl _ | exact .ownSl _ _ _  | exact SV.le.ownEq (by first | rfl | (rw [map_take hx, List.map_append]; rfl)) | exact SV.le.of_eq (by first | rfl | (rw [map_take hx, List.map_append]; rfl))) (Slots.cons rfl (by first | exact .refl _ | exact .nilOwn _ _ | exact .nilSl _ | exact .ownSl _ _ _  | exact SV.le.ownEq (by first | rfl | (rw [map_take hx, List.map_append]; rfl)) | exact SV.le.of_eq (by first | rfl | (rw [map_take hx, List.map_append]; rfl))) (Slots.cons rfl (by first | exact .refl _ | exact .nilOwn _ _ | exact .nilSl _ | exact .ownSl _ _ _  | exact SV.le.ownEq (by first | rfl | (rw [map_take hx, List.map_append]; rfl)) | exact SV.le.of_eq (by first | rfl | (rw [map_take hx, List.map_append]; rfl))) Slots.nil)))))))), (by first | exact List.Sublist.refl _ | exact .cons_cons _ (.cons _ (.refl _)) | exact List.nil_sublist _ | exact .cons _ (.refl _) | exact .cons _ (.cons _ (.refl _)) | exact .cons _ (.cons _ (.cons _ (.refl _))) | exact .cons _ (.cons _ (.cons _ (.cons _ (.refl _)))) | exact .cons_cons _ (List.nil_sublist _))⟩, (by omega), ⟨k + 1, rfl, rfl, (by omega)⟩⟩
            ·
              have hge : ((e :: r).take n).length ≤ k := by have := of_decide_eq_false hc3; rw [List.length_map] at this; omega
              have hkt : ((e :: r).take n).take k = ((e :: r).take n) := List.take_of_length_le hge
              rw [hkt]
              refine awp_exit ?_
              refine x_thenE ?_
              refine x_thenE ?_
              refine x_blockE ?_
              refine x_then ?_
              refine awp_seq ?_
              refine awp_region ?_
              refine r_move rfl rfl ?_
              refine r_move rfl rfl ?_
              refine r_call0 hq rfl rfl (.cons (.ev rfl rfl) (.cons (.ev rfl rfl) .nil)) (apply_ok fs (((e :: r).take n).map (·.ch)) (by simp at hfl; omega) (by simp; omega) (fun f hf => (hfb f hf).1) (fun f hf => (hfb f hf).2) hdb) rfl TF.en25 rfl (fun r hr => ?_)
              skip
              rcases hr with ⟨m, ha, hok, rfl⟩ | ⟨ec, m, ha, hne, rfl⟩
              ·
                refine r_move rfl rfl ?_
                refine r_extract rfl rfl rfl ?_
                refine r_extract rfl rfl rfl ?_
                refine r_assign rfl rfl ?_
                refine r_assign rfl rfl ?_
                refine awl_nil ?_
                refine x_then ?_
                refine awp_seq ?_
                refine awp_seq ?_
                refine awp_region ?_
                refine r_move rfl rfl ?_
                refine r_cmp rfl rfl rfl rfl ?_
                refine awl_nil ?_
                refine x_then ?_
                refine awp_cond rfl (fun hc4 => ?_) (fun hc4 => ?_)
                ·
                  exfalso; exact absurd hc4 (by decide)
                ·
                  refine awp_skip ?_
                  refine x_then ?_
                  refine awp_drawS [68, 69, 70, 71, 6] [_, _, _, _, _] [] [] TF.mixed rfl rfl rfl ⟨⟨⟨⟨⟨trivial
                    , ⟨_, rfl, fun sl hd hr ho => by
                        refine r_move (hr 11 _ rfl rfl rfl) rfl ?_
                        exact awl_nil ⟨rfl, post_put⟩⟩⟩
                    , ⟨_, rfl, fun sl hd hr ho => by
                        refine r_move (hr 0 _ rfl rfl rfl) rfl ?_
                        exact awl_nil ⟨rfl, post_put⟩⟩⟩
                    , ⟨_, rfl, fun sl hd hr ho => by
                        refine r_move (hr 7 _ rfl rfl rfl) rfl ?_
                        exact awl_nil ⟨rfl, post_put⟩⟩⟩
                    , ⟨_, rfl, fun sl hd hr ho => by
                        refine r_sliceLe (((e :: r).drop n).map Ev.cs) (by simp [List.map_drop]) (hd 1 _ rfl rfl rfl) rfl (hd 2 _ rfl rfl rfl) TF.sl28 TF.sz46 (by omega) (by simp; simp at hrl; omega) rfl ?_
                        exact awl_nil ⟨rfl, post_put⟩⟩⟩
                    , ⟨_, rfl, fun sl hd hr ho => by
                        refine r_assign (hd 0 _ rfl rfl rfl) rfl ?_
                        exact awl_nil ⟨rfl, post_put⟩⟩⟩
                    (by rfl) ?_
                  refine r_assign rfl rfl ?_
                  refine awl_nil ?_
                  refine x_block ?_
                  refine x_then ?_
                  refine ⟨(((e :: r).drop n)).length, ⟨73, [(0, .a (evsA (((e :: r).drop n)))), (1, .a (.v (.int .u64 (mo)))), (6, .a (files ((filesM m))))], []⟩, ⟨rfl, (Slots.cons rfl (by first | exact .refl _ | exact .nilOwn _ _ | exact .nilSl _ | exact .ownSl _ _ _  | exact SV.le.ownEq (by first | rfl | simp [evsA, List.map_drop]) | exact SV.le.of_eq (by first | rfl | simp [evsA, List.map_drop])) (Slots.cons rfl (by first | exact .refl _ | exact .nilOwn _ _ | exact .nilSl _ | exact .ownSl _ _ _  | exact SV.le.ownEq (by first | rfl | simp [evsA, List.map_drop]) | exact SV.le.of_eq (by first | rfl | simp [evsA, List.map_drop])) (Slots.cons rfl (by first | exact .refl _ | exact .nilOwn _ _ | exact .nilSl _ | exact .ownSl _ _ _  | exact SV.le.ownEq (by first | rfl | simp [evsA, List.map_drop]) | exact SV.le.of_eq (by first | rfl | simp [evsA, List.map_drop])) Slots.nil))), (by first | exact List.Sublist.refl _ | exact .cons_cons _ (.cons _ (.refl _)) | exact List.nil_sublist _ | exact .cons _ (.refl _) | exact .cons _ (.cons _ (.refl _)) | exact .cons _ (.cons _ (.cons _ (.refl _))) | exact .cons _ (.cons _ (.cons _ (.cons _ (.refl _)))) | exact .cons_cons _ (List.nil_sublist _))⟩, (by simp; omega), ⟨((e :: r).drop n), (filesM m), rfl, rfl, (by rw [hin, at_ok1 hle (by rw [← hnr]; exact ha), ← hnr]), (fun x hx => hsub x (List.mem_of_mem_drop hx)), (bnd_at hfb hdb ha), (by have := filesM_len m; have := hok.len; simp at this ⊢; simp at hfl; omega)⟩⟩
              ·
                refine r_move rfl rfl ?_
                refine r_extract rfl rfl rfl ?_
                refine r_extract rfl rfl rfl ?_
                refine r_assign rfl rfl ?_
                refine r_assign rfl rfl ?_
                refine awl_nil ?_
                refine x_then ?_
                refine awp_seq ?_
                refine awp_seq ?_
                refine awp_region ?_
                refine r_move rfl rfl ?_
                refine r_cmp rfl rfl rfl rfl ?_
                refine awl_nil ?_
                refine x_then ?_
                refine awp_cond rfl (fun hc4 => ?_) (fun hc4 => ?_)
                ·
                  refine awp_seq ?_
                  refine awp_region ?_
                  refine r_move rfl rfl ?_
                  refine r_assign rfl rfl ?_
                  first | refine awl_imp (imp_le 4 (x := .a (files [])) rfl (.nilSl _)) ?_ | skip
                  refine r_assign rfl rfl ?_
                  refine awl_nil ?_
                  refine x_then ?_
                  refine awp_ret ?_
                  refine x_thenR ?_
                  refine x_blockR ?_
                  refine x_thenR ?_
                  refine x_blockR ?_
                  refine x_thenR ?_
                  exact ⟨(.inl rfl), _, [], (.two (by first | exact .mk rfl rfl | exact .nil rfl) (by first | exact .mk rfl rfl | exact .nil rfl)), ⟨rfl, by first | (rw [show AtF l mo = (15, []) from by unfold AtF; rw [hns]; rfl]; rfl) | (rw [hdone]; rfl) | (rw [show AtF l mo = (ec, []) from by rw [hin]; exact at_bad1 hle (by rw [← hnr]; exact ha) hne]; rfl)⟩, (List.nil_sublist _), (by simp)⟩
                ·
                  exfalso; have := hc4; simp at this; exact hne this
        ·
          have hnr : n = runF (e :: r) := by have h1 := run_len (e :: r); have h2 := of_decide_eq_false hg31; rw [List.length_map] at h2; omega
          refine awp_drawS [27, 28, 29, 30, 31, 32, 33, 34, 35, 36, 37, 38, 39, 40] [_, _, _, _, _, _, _, _, _, _, _, _, _, _] [] [] TF.mixed rfl rfl rfl ⟨⟨⟨⟨⟨⟨⟨⟨⟨⟨⟨⟨⟨⟨trivial
            , ⟨_, rfl, fun sl hd hr ho => by
                refine r_move (hr 7 _ rfl rfl rfl) rfl ?_
                exact awl_nil ⟨rfl, post_put⟩⟩⟩
            , ⟨_, rfl, fun sl hd hr ho => by
                refine r_move (hr 0 _ rfl rfl rfl) rfl ?_
                exact awl_nil ⟨rfl, post_put⟩⟩⟩
            , ⟨_, rfl, fun sl hd hr ho => by
                first | (refine r_lenS (hd 1 _ rfl rfl rfl) rfl TF.sl28 rfl ?_) | (refine r_lenNil (hd 1 _ rfl rfl rfl) TF.sl28 rfl ?_) | (refine r_lenV (hd 1 _ rfl rfl rfl) TF.sl28 rfl ?_)
                exact awl_nil ⟨rfl, post_put⟩⟩⟩
            , ⟨_, rfl, fun sl hd hr ho => by
                refine r_cmp (hd 0 _ rfl rfl rfl) (hd 2 _ rfl rfl rfl) rfl rfl ?_
                exact awl_nil ⟨rfl, post_put⟩⟩⟩
            , ⟨_, rfl, fun sl hd hr ho => by
                refine r_move (hd 3 _ rfl rfl rfl) rfl ?_
                exact awl_nil ⟨rfl, post_put⟩⟩⟩
            , ⟨_, rfl, fun sl hd hr ho => by
                refine g_skip rfl (hd 4 _ rfl rfl rfl) hg31 rfl ?_
                exact awl_nil ⟨rfl, post_put⟩⟩⟩
            , ⟨_, rfl, fun sl hd hr ho => by
                refine g_skip rfl (hd 4 _ rfl rfl rfl) hg31 rfl ?_
                exact awl_nil ⟨rfl, post_put⟩⟩⟩
            , ⟨_, rfl, fun sl hd hr ho => by
                refine g_skip rfl (hd 4 _ rfl rfl rfl) hg31 rfl ?_
                exact awl_nil ⟨rfl, post_put⟩⟩⟩
            , ⟨_, rfl, fun sl hd hr ho => by
                refine g_skip rfl (hd 4 _ rfl rfl rfl) hg31 rfl ?_
                exact awl_nil ⟨rfl, post_put⟩⟩⟩
            , ⟨_, rfl, fun sl hd hr ho => by
                refine g_skip rfl (hd 4 _ rfl rfl rfl) hg31 rfl ?_
                exact awl_nil ⟨rfl, post_put⟩⟩⟩
            , ⟨_, rfl, fun sl hd hr ho => by
                refine g_skip rfl (hd 4 _ rfl rfl rfl) hg31 rfl ?_
                exact awl_nil ⟨rfl, post_put⟩⟩⟩
            , ⟨_, rfl, fun sl hd hr ho => by
                refine g_skip rfl (hd 4 _ rfl rfl rfl) hg31 rfl ?_
                exact awl_nil ⟨rfl, post_put⟩⟩⟩
            , ⟨_, rfl, fun sl hd hr ho => by
                refine g_skip rfl (hd 4 _ rfl rfl rfl) hg31 rfl ?_
                exact awl_nil ⟨rfl, post_put⟩⟩⟩
            , ⟨_, rfl, fun sl hd hr ho => by
                refine g_skip rfl (hd 4 _ rfl rfl rfl) hg31 rfl ?_
                exact awl_nil ⟨rfl, post_put⟩⟩⟩
            (by rfl) ?_
          refine g_skip rfl rfl hg31 rfl ?_
          refine r_pickF rfl hg31 rfl rfl ?_
          refine awl_nil ?_
          refine x_then ?_
          refine awp_condF rfl ?_
          have hnr : n = runF (e :: r) := by first | exact hnr | (have h := run_at hx hn0 hnr0; rw [hc2] at h; have := of_decide_eq_false h.symm; omega)
          have hrl := run_len (e :: r)
          have hgl : ((e :: r).take n).length = n := by rw [List.length_take]; omega
          have hdb : ∀ c ∈ ((e :: r).take n).map (·.ch), BndC c := fun c hc => by obtain ⟨x, hx, rfl⟩ := List.mem_map.1 hc; exact hb x (hsub x (List.mem_of_mem_take hx))
          refine awp_exit ?_
          refine x_thenE ?_
          refine x_thenE ?_
          refine x_blockE ?_
          refine x_then ?_
          refine awp_seq ?_
          refine awp_region ?_
          refine r_assign rfl rfl ?_
          refine awl_nil ?_
          refine x_then ?_
          refine awp_seq ?_
          refine awp_seq ?_
          refine awp_region ?_
          refine r_move rfl rfl ?_
          refine r_move rfl rfl ?_
          refine r_sliceHe (((e :: r).take n).map Ev.cs) (by simp [List.map_take]) rfl rfl rfl TF.sl28 TF.sz46 (by omega) (by simp; simp at hrl; omega) rfl ?_
          first | (refine r_lenS rfl rfl TF.sl28 rfl ?_) | (refine r_lenNil rfl TF.sl28 rfl ?_) | (refine r_lenV rfl TF.sl28 rfl ?_)
          refine r_move rfl rfl ?_
          refine awl_nil ?_
          refine x_then ?_
          refine awp_block ?_
          refine awp_loop (fun nn0 S => ∃ k : Nat, S = ⟨73, [(0, .a (evsA (e :: r))), (1, .a (.v (.int .u64 (mo)))), (6, .a (files fs)), (7, .a (.v (.int .i64 ((n : Int))))), (8, .own 8 4 (((((e :: r).take n).take k).map (·.ch)).map FC.cs)), (47, .a (evsA ((e :: r).take n))), (48, .a (.v (.int .i64 ((((e :: r).take n).map Ev.cs).length)))), (49, .a (.v (.int .i64 ((k : Int)))))], []⟩ ∧ nn0 = ((e :: r).take n).length - k ∧ (k ≤ ((e :: r).take n).length)) (((e :: r).take n).length - (0)) ⟨73, [(0, .a (evsA (e :: r))), (1, .a (.v (.int .u64 (mo)))), (6, .a (files fs)), (7, .a (.v (.int .i64 ((n : Int))))), (8, .own 8 4 (((((e :: r).take n).take (0)).map (·.ch)).map FC.cs)), (47, .a (evsA ((e :: r).take n))), (48, .a (.v (.int .i64 ((((e :: r).take n).map Ev.cs).length)))), (49, .a (.v (.int .i64 (((0) : Int)))))], []⟩ ⟨rfl, (Slots.cons rfl (by first | exact .refl _ | exact .nilOwn _ _ | exact .nilSl _ | exact .ownSl _ _ _  | exact SV.le.of_eq (by simp)) (Slots.cons rfl (by first | exact .refl _ | exact .nilOwn _ _ | exact .nilSl _ | exact .ownSl _ _ _  | exact SV.le.of_eq (by simp)) (Slots.cons rfl (by first | exact .refl _ | exact .nilOwn _ _ | exact .nilSl _ | exact .ownSl _ _ _  | exact SV.le.of_eq (by simp)) (Slots.cons rfl (by first | exact .refl _ | exact .nilOwn _ _ | exact .nilSl _ | exact .ownSl _ _ _  | exact SV.le.of_eq (by simp)) (Slots.cons rfl (by first | exact .refl _ | exact .nilOwn _ _ | exact .nilSl _ | exact .ownSl _ _ _  | exact SV.le.of_eq (by simp)) (Slots.cons rfl (by first | exact .refl _ | exact .nilOwn _ _ | exact .nilSl _ | exact .ownSl _ _ _  | exact SV.le.of_eq (by simp)) (Slots.cons rfl (by first | exact .refl _ | exact .nilOwn _ _ | exact .nilSl _ | exact .ownSl _ _ _  | exact SV.le.of_eq (by simp)) (Slots.cons rfl (by first | exact .refl _ | exact .nilOwn _ _ | exact .nilSl _ | exact .ownSl _ _ _  | exact SV.le.of_eq (by simp)) Slots.nil)))))))), (by first | exact List.Sublist.refl _ | exact .cons_cons _ (.cons _ (.refl _)) | exact List.nil_sublist _ | exact .cons _ (.refl _) | exact .cons _ (.cons _ (.refl _)) | exact .cons _ (.cons _ (.cons _ (.refl _))) | exact .cons _ (.cons _ (.cons _ (.cons _ (.refl _)))) | exact .cons_cons _ (List.nil_sublist _))⟩ ⟨0, rfl, rfl, Nat.zero_le _⟩ ?_
          rintro nn0 _ ⟨k, rfl, rfl, hk⟩
          refine awp_seq ?_
          refine awp_region ?_
          refine r_cmp rfl rfl rfl rfl ?_
          refine awl_nil ?_
          refine x_then ?_
          refine awp_seq ?_
          refine awp_cond rfl (fun hc3 => ?_) (fun hc3 => ?_)
          ·
            have hltx : k < ((e :: r).take n).length := by have := of_decide_eq_true hc3; rw [List.length_map] at this; omega
            obtain ⟨x, hx⟩ := get_lt hltx
            refine awp_skip ?_
            refine x_then ?_
            refine awp_seq ?_
            refine awp_block ?_
            refine awp_seq ?_
            refine awp_region ?_
            refine r_index rfl rfl rfl TF.sl28 TF.sz46 (by omega) (get_map hx) rfl ?_
            refine r_loadA rfl TF.agg46 TF.sz46 rfl rfl ?_
            refine r_alloc TF.zero46 rfl (fun b10 => ?_)
            refine r_store 0 rfl rfl rfl TF.sz46 rfl rfl rfl ?_
            refine awl_nil ?_
            refine x_then ?_
            refine awp_region ?_
            refine r_move rfl rfl ?_
            first | (refine r_fieldb rfl TF.f46_1 TF.sz44 rfl ?_) | (refine r_fieldcp rfl TF.f46_1 TF.sz44 rfl ?_)
            refine r_loadAb 0 rfl rfl TF.agg44 TF.sz44 rfl rfl ?_
            refine r_lit 56 (parts := [(0, .tmp 55)]) rfl TF.sl39 TF.sz44 TF.zraw44 rfl rfl rfl rfl rfl rfl rfl ?_
            refine r_append 8 rfl (by first | exact .own _ | exact .nil) rfl (by first | exact .sl _ | exact .own _ _ | exact .nil) TF.sl39 TF.sz44 (by decide) TF.by44 TF.zlen44 (by simp [chunks] <;> omega) (by simp [chunks] <;> omega) rfl ?_
            refine r_assign rfl rfl ?_
            refine awl_nil ?_
            refine x_block ?_
            refine x_then ?_
            refine awp_region ?_
            refine r_ari _ rfl rfl rfl (wrap_id (by first | omega | (simp; omega))) rfl ?_
            refine r_move rfl rfl ?_
            refine awl_nil ?_
            refine x_then ?_
            refine ⟨((e :: r).take n).length - (k + 1), ⟨73, [(0, .a (evsA (e :: r))), (1, .a (.v (.int .u64 (mo)))), (6, .a (files fs)), (7, .a (.v (.int .i64 ((n : Int))))), (8, .own 8 4 (((((e :: r).take n).take (k + 1)).map (·.ch)).map FC.cs)), (47, .a (evsA ((e :: r).take n))), (48, .a (.v (.int .i64 ((((e :: r).take n).map Ev.cs).length)))), (49, .a (.v (.int .i64 (((k + 1) : Int)))))], []⟩, ⟨rfl, (Slots.cons rfl (by first | exact .refl _ | exact .nilOwn _ _ | exact .nilSl _ | exact .ownSl _ _ _  | exact SV.le.ownEq (by first | rfl | (rw [map_take hx, List.map_append]; rfl)) | exact SV.le.of_eq (by first | rfl | (rw [map_take hx, List.map_append]; rfl))) (Slots.cons rfl (by first | exact .refl _ | exact .nilOwn _ _ | exact .nilSl _ | exact .ownSl _ _ _  | exact SV.le.ownEq (by first | rfl | (rw [map_take hx, List.map_append]; rfl)) | exact SV.le.of_eq (by first | rfl | (rw [map_take hx, List.map_append]; rfl))) (Slots.cons rfl (by first | exact .refl _ | exact .nilOwn _ _ | exact .nilSl _ | exact .ownSl _ _ _  | exact SV.le.ownEq (by first | rfl | (rw [map_take hx, List.map_append]; rfl)) | exact SV.le.of_eq (by first | rfl | (rw [map_take hx, List.map_append]; rfl))) (Slots.cons rfl (by first | exact .refl _ | exact .nilOwn _ _ | exact .nilSl _ | exact .ownSl _ _ _  | exact SV.le.ownEq (by first | rfl | (rw [map_take hx, List.map_append]; rfl)) | exact SV.le.of_eq (by first | rfl | (rw [map_take hx, List.map_append]; rfl))) (Slots.cons rfl (by first | exact .refl _ | exact .nilOwn _ _ | exact .nilSl _ | exact .ownSl _ _ _  | exact SV.le.ownEq (by first | rfl | (rw [map_take hx, List.map_append]; rfl)) | exact SV.le.of_eq (by first | rfl | (rw [map_take hx, List.map_append]; rfl))) (Slots.cons rfl (by first | exact .refl _ | exact .nilOwn _ _ | exact .nilSl _ | exact .ownSl _ _ _  | exact SV.le.ownEq (by first | rfl | (rw [map_take hx, List.map_append]; rfl)) | exact SV.le.of_eq (by first | rfl | (rw [map_take hx, List.map_append]; rfl))) (Slots.cons rfl (by first | exact .refl _ | exact .nilOwn _ _ | exact .nilSl _ | exact .ownSl _ _ _  | exact SV.le.ownEq (by first | rfl | (rw [map_take hx, List.map_append]; rfl)) | exact SV.le.of_eq (by first | rfl | (rw [map_take hx, List.map_append]; rfl))) (Slots.cons rfl (by first | exact .refl _ | exact .nilOwn _ _ | exact .nilSl _ | exact .ownSl _ _ _  | exact SV.le.ownEq (by first | rfl | (rw [map_take hx, List.map_append]; rfl)) | exact SV.le.of_eq (by first | rfl | (rw [map_take hx, List.map_append]; rfl))) Slots.nil)))))))), (by first | exact List.Sublist.refl _ | exact .cons_cons _ (.cons _ (.refl _)) | exact List.nil_sublist _ | exact .cons _ (.refl _) | exact .cons _ (.cons _ (.refl _)) | exact .cons _ (.cons _ (.cons _ (.refl _))) | exact .cons _ (.cons _ (.cons _ (.cons _ (.refl _)))) | exact .cons_cons _ (List.nil_sublist _))⟩, (by omega), ⟨k + 1, rfl, rfl, (by omega)⟩⟩
          ·
            have hge : ((e :: r).take n).length ≤ k := by have := of_decide_eq_false hc3; rw [List.length_map] at this; omega
            have hkt : ((e :: r).take n).take k = ((e :: r).take n) := List.take_of_length_le hge
            rw [hkt]
            refine awp_exit ?_
            refine x_thenE ?_
            refine x_thenE ?_
            refine x_blockE ?_
            refine x_then ?_
            refine awp_seq ?_
            refine awp_region ?_
            refine r_move rfl rfl ?_
            refine r_move rfl rfl ?_
            refine r_call0 hq rfl rfl (.cons (.ev rfl rfl) (.cons (.ev rfl rfl) .nil)) (apply_ok fs (((e :: r).take n).map (·.ch)) (by simp at hfl; omega) (by simp; omega) (fun f hf => (hfb f hf).1) (fun f hf => (hfb f hf).2) hdb) rfl TF.en25 rfl (fun r hr => ?_)
            skip
            rcases hr with ⟨m, ha, hok, rfl⟩ | ⟨ec, m, ha, hne, rfl⟩
            ·
              refine r_move rfl rfl ?_
              refine r_extract rfl rfl rfl ?_
              refine r_extract rfl rfl rfl ?_
              refine r_assign rfl rfl ?_
              refine r_assign rfl rfl ?_
              refine awl_nil ?_
              refine x_then ?_
              refine awp_seq ?_
              refine awp_seq ?_
              refine awp_region ?_
              refine r_move rfl rfl ?_
              refine r_cmp rfl rfl rfl rfl ?_
              refine awl_nil ?_
              refine x_then ?_
              refine awp_cond rfl (fun hc4 => ?_) (fun hc4 => ?_)
              ·
                exfalso; exact absurd hc4 (by decide)
              ·
                refine awp_skip ?_
                refine x_then ?_
                refine awp_drawS [68, 69, 70, 71, 6] [_, _, _, _, _] [] [] TF.mixed rfl rfl rfl ⟨⟨⟨⟨⟨trivial
                  , ⟨_, rfl, fun sl hd hr ho => by
                      refine r_move (hr 11 _ rfl rfl rfl) rfl ?_
                      exact awl_nil ⟨rfl, post_put⟩⟩⟩
                  , ⟨_, rfl, fun sl hd hr ho => by
                      refine r_move (hr 0 _ rfl rfl rfl) rfl ?_
                      exact awl_nil ⟨rfl, post_put⟩⟩⟩
                  , ⟨_, rfl, fun sl hd hr ho => by
                      refine r_move (hr 7 _ rfl rfl rfl) rfl ?_
                      exact awl_nil ⟨rfl, post_put⟩⟩⟩
                  , ⟨_, rfl, fun sl hd hr ho => by
                      refine r_sliceLe (((e :: r).drop n).map Ev.cs) (by simp [List.map_drop]) (hd 1 _ rfl rfl rfl) rfl (hd 2 _ rfl rfl rfl) TF.sl28 TF.sz46 (by omega) (by simp; simp at hrl; omega) rfl ?_
                      exact awl_nil ⟨rfl, post_put⟩⟩⟩
                  , ⟨_, rfl, fun sl hd hr ho => by
                      refine r_assign (hd 0 _ rfl rfl rfl) rfl ?_
                      exact awl_nil ⟨rfl, post_put⟩⟩⟩
                  (by rfl) ?_
                refine r_assign rfl rfl ?_
                refine awl_nil ?_
                refine x_block ?_
                refine x_then ?_
                refine ⟨(((e :: r).drop n)).length, ⟨73, [(0, .a (evsA (((e :: r).drop n)))), (1, .a (.v (.int .u64 (mo)))), (6, .a (files ((filesM m))))], []⟩, ⟨rfl, (Slots.cons rfl (by first | exact .refl _ | exact .nilOwn _ _ | exact .nilSl _ | exact .ownSl _ _ _  | exact SV.le.ownEq (by first | rfl | simp [evsA, List.map_drop]) | exact SV.le.of_eq (by first | rfl | simp [evsA, List.map_drop])) (Slots.cons rfl (by first | exact .refl _ | exact .nilOwn _ _ | exact .nilSl _ | exact .ownSl _ _ _  | exact SV.le.ownEq (by first | rfl | simp [evsA, List.map_drop]) | exact SV.le.of_eq (by first | rfl | simp [evsA, List.map_drop])) (Slots.cons rfl (by first | exact .refl _ | exact .nilOwn _ _ | exact .nilSl _ | exact .ownSl _ _ _  | exact SV.le.ownEq (by first | rfl | simp [evsA, List.map_drop]) | exact SV.le.of_eq (by first | rfl | simp [evsA, List.map_drop])) Slots.nil))), (by first | exact List.Sublist.refl _ | exact .cons_cons _ (.cons _ (.refl _)) | exact List.nil_sublist _ | exact .cons _ (.refl _) | exact .cons _ (.cons _ (.refl _)) | exact .cons _ (.cons _ (.cons _ (.refl _))) | exact .cons _ (.cons _ (.cons _ (.cons _ (.refl _)))) | exact .cons_cons _ (List.nil_sublist _))⟩, (by simp; omega), ⟨((e :: r).drop n), (filesM m), rfl, rfl, (by rw [hin, at_ok1 hle (by rw [← hnr]; exact ha), ← hnr]), (fun x hx => hsub x (List.mem_of_mem_drop hx)), (bnd_at hfb hdb ha), (by have := filesM_len m; have := hok.len; simp at this ⊢; simp at hfl; omega)⟩⟩
            ·
              refine r_move rfl rfl ?_
              refine r_extract rfl rfl rfl ?_
              refine r_extract rfl rfl rfl ?_
              refine r_assign rfl rfl ?_
              refine r_assign rfl rfl ?_
              refine awl_nil ?_
              refine x_then ?_
              refine awp_seq ?_
              refine awp_seq ?_
              refine awp_region ?_
              refine r_move rfl rfl ?_
              refine r_cmp rfl rfl rfl rfl ?_
              refine awl_nil ?_
              refine x_then ?_
              refine awp_cond rfl (fun hc4 => ?_) (fun hc4 => ?_)
              ·
                refine awp_seq ?_
                refine awp_region ?_
                refine r_move rfl rfl ?_
                refine r_assign rfl rfl ?_
                first | refine awl_imp (imp_le 4 (x := .a (files [])) rfl (.nilSl _)) ?_ | skip
                refine r_assign rfl rfl ?_
                refine awl_nil ?_
                refine x_then ?_
                refine awp_ret ?_
                refine x_thenR ?_
                refine x_blockR ?_
                refine x_thenR ?_
                refine x_blockR ?_
                refine x_thenR ?_
                exact ⟨(.inl rfl), _, [], (.two (by first | exact .mk rfl rfl | exact .nil rfl) (by first | exact .mk rfl rfl | exact .nil rfl)), ⟨rfl, by first | (rw [show AtF l mo = (15, []) from by unfold AtF; rw [hns]; rfl]; rfl) | (rw [hdone]; rfl) | (rw [show AtF l mo = (ec, []) from by rw [hin]; exact at_bad1 hle (by rw [← hnr]; exact ha) hne]; rfl)⟩, (List.nil_sublist _), (by simp)⟩
              ·
                exfalso; have := hc4; simp at this; exact hne this
      ·
        try (have hdone : AtF l mo = (0, fs) := by rw [hin]; exact at_done (fun e' r' h => by cases h; exact of_decide_eq_false hc1))
        refine awp_exit ?_
        refine x_thenE ?_
        refine x_thenE ?_
        refine x_blockE ?_
        refine x_then ?_
        refine awp_seq ?_
        refine awp_region ?_
        refine r_move rfl rfl ?_
        refine r_assign rfl rfl ?_
        first | refine awl_imp (imp_le 4 (x := .a (files [])) rfl (.nilSl _)) ?_ | skip
        refine r_assign rfl rfl ?_
        refine awl_nil ?_
        refine x_then ?_
        refine awp_ret ?_
        exact ⟨(.inl rfl), _, [], (.two (by first | exact .mk rfl rfl | exact .nil rfl) (by first | exact .mk rfl rfl | exact .nil rfl)), ⟨rfl, by first | (rw [show AtF l mo = (15, []) from by unfold AtF; rw [hns]; rfl]; rfl) | (rw [hdone]; rfl) | (rw [show AtF l mo = (ec, []) from by rw [hin]; exact at_bad1 hle (by rw [← hnr]; exact ha) hne]; rfl)⟩, (List.nil_sublist _), (by simp)⟩
    ·
      obtain rfl : l2 = [] := by cases l2 with | nil => rfl | cons e r => simp at hg19 <;> omega
      have hdone : AtF l mo = (0, fs) := by rw [hin]; rfl
      refine g_skip rfl rfl hg19 rfl ?_
      refine g_skip rfl rfl hg19 rfl ?_
      refine g_skip rfl rfl hg19 rfl ?_
      refine g_skip rfl rfl hg19 rfl ?_
      refine g_skip rfl rfl hg19 rfl ?_
      refine g_skip rfl rfl hg19 rfl ?_
      refine r_pickF rfl hg19 rfl rfl ?_
      refine awl_nil ?_
      refine x_then ?_
      refine awp_condF rfl ?_
      try (have hdone : AtF l mo = (0, fs) := by rw [hin]; exact at_done (fun e' r' h => by cases h; exact of_decide_eq_false hc1))
      refine awp_exit ?_
      refine x_thenE ?_
      refine x_thenE ?_
      refine x_blockE ?_
      refine x_then ?_
      refine awp_seq ?_
      refine awp_region ?_
      refine r_move rfl rfl ?_
      refine r_assign rfl rfl ?_
      first | refine awl_imp (imp_le 4 (x := .a (files [])) rfl (.nilSl _)) ?_ | skip
      refine r_assign rfl rfl ?_
      refine awl_nil ?_
      refine x_then ?_
      refine awp_ret ?_
      exact ⟨(.inl rfl), _, [], (.two (by first | exact .mk rfl rfl | exact .nil rfl) (by first | exact .mk rfl rfl | exact .nil rfl)), ⟨rfl, by first | (rw [show AtF l mo = (15, []) from by unfold AtF; rw [hns]; rfl]; rfl) | (rw [hdone]; rfl) | (rw [show AtF l mo = (ec, []) from by rw [hin]; exact at_bad1 hle (by rw [← hnr]; exact ha) hne]; rfl)⟩, (List.nil_sublist _), (by simp)⟩

end Go.Proofs.Ytmbfmnhcahhciaa.A

/- Layer 31: walks of the order of places. -/
import Derived.Test.YtaglbmgpdoophaaProg
import Derived.KernelRfl
import Derived.Test.YtaglbmgpdoophaaX31S
namespace Go.Proofs.Ytaglbmgpdoophaa.A
open Go Go.RowKit
set_option linter.unusedVariables false
set_option linter.unusedSimpArgs false
set_option maxRecDepth 100000

theorem TD.en126 : entersT Try.prog 126 := enters_of Try.func126 (by kernel_rfl) (by kernel_rfl)
theorem TD.sl165 : sliceT Try.prog 165 = some 3 := by kernel_rfl
theorem TD.sz3 : szT Try.prog 3 = some 1 := by kernel_rfl
theorem TD.agg3 : aggT Try.prog 3 = some false := by kernel_rfl
theorem TD.en119 : entersT Try.prog 119 := enters_of Try.func119 (by kernel_rfl) (by kernel_rfl)
theorem TD.mixed : Try.prog.follows .mixedOrders = true := by kernel_rfl
theorem TD.un118 : Try.prog.underlying 118 = some (.array 2 3) := by kernel_rfl
theorem TD.en106 : entersT Try.prog 106 := enters_of Try.func106 (by kernel_rfl) (by kernel_rfl)

theorem nan_ok (x : Int) : ACq Try.prog 126 [.v (.int .i64 x)] [] (fun r n => n = [] ∧ r = bA false) := by
  refine acq_of_awp (rs := [2]) (nt := 6) Try.func126 rfl rfl rfl rfl (fun w0 C0 hq => ?_)
  refine awp_seq ?_
  refine awp_region ?_
  refine r_assign rfl rfl ?_
  refine awl_nil ?_
  refine x_then ?_
  refine awp_seq ?_
  refine awp_region ?_
  refine r_move rfl rfl ?_
  refine r_move rfl rfl ?_
  refine r_cmp rfl rfl rfl rfl ?_
  refine r_assign rfl rfl ?_
  refine awl_nil ?_
  refine x_then ?_
  refine awp_ret ?_
  exact ⟨(.inl rfl), _, [], (.one (by first | exact .mk rfl rfl | exact .nil rfl)), ⟨rfl, by simp [bA, SV.av]⟩, (List.nil_sublist _), (by simp)⟩

theorem cmp_ok (x y : Int) : ACq Try.prog 119 [.v (.int .i64 x), .v (.int .i64 y)] [] (fun r n => n = [] ∧ r = .v (.int .i64 (cmpI x y))) := by
  refine acq_of_awp (rs := [4]) (nt := 20) Try.func119 rfl rfl rfl rfl (fun w0 C0 hq => ?_)
  refine awp_seq ?_
  refine awp_region ?_
  refine r_assign rfl rfl ?_
  refine awl_nil ?_
  refine x_then ?_
  refine awp_seq ?_
  refine awp_region ?_
  refine r_move rfl rfl ?_
  refine r_callq0 rfl rfl (.cons (.ev rfl rfl) .nil) (nan_ok x) rfl TD.en126 rfl (fun r hr => ?_)
  obtain rfl := hr
  refine r_assign rfl rfl ?_
  refine awl_nil ?_
  refine x_then ?_
  refine awp_seq ?_
  refine awp_region ?_
  refine r_move rfl rfl ?_
  refine r_callq0 rfl rfl (.cons (.ev rfl rfl) .nil) (nan_ok y) rfl TD.en126 rfl (fun r hr => ?_)
  obtain rfl := hr
  refine r_assign rfl rfl ?_
  refine awl_nil ?_
  refine x_then ?_
  refine awp_seq ?_
  refine awp_seq ?_
  refine awp_region ?_
  refine r_move rfl rfl ?_
  refine awl_nil ?_
  refine x_then ?_
  refine awp_cond rfl (fun hc0 => ?_) (fun hc0 => ?_)
  ·
    exfalso; cases hc0
  ·
    refine awp_skip ?_
    refine x_then ?_
    refine awp_seq ?_
    refine awp_seq ?_
    refine awp_region ?_
    refine r_move rfl rfl ?_
    refine awl_nil ?_
    refine x_then ?_
    refine awp_cond rfl (fun hc2 => ?_) (fun hc2 => ?_)
    ·
      exfalso; cases hc2
    ·
      refine awp_skip ?_
      refine x_then ?_
      refine awp_seq ?_
      refine awp_seq ?_
      refine awp_region ?_
      refine r_move rfl rfl ?_
      refine r_move rfl rfl ?_
      refine r_cmp rfl rfl rfl rfl ?_
      refine awl_nil ?_
      refine x_then ?_
      refine awp_cond rfl (fun hc3 => ?_) (fun hc3 => ?_)
      ·
        have h3 := of_decide_eq_true hc3
        refine awp_seq ?_
        refine awp_region ?_
        refine r_assign rfl rfl ?_
        refine awl_nil ?_
        refine x_then ?_
        refine awp_ret ?_
        refine x_thenR ?_
        exact ⟨(.inl rfl), _, [], (.one (by first | exact .mk rfl rfl | exact .nil rfl)), ⟨rfl, by simp [cmpI, SV.av, *]⟩, (List.nil_sublist _), (by simp)⟩
      ·
        have h3 := of_decide_eq_false hc3
        refine awp_skip ?_
        refine x_then ?_
        refine awp_seq ?_
        refine awp_seq ?_
        refine awp_region ?_
        refine r_move rfl rfl ?_
        refine r_move rfl rfl ?_
        refine r_cmp rfl rfl rfl rfl ?_
        refine awl_nil ?_
        refine x_then ?_
        refine awp_cond rfl (fun hc4 => ?_) (fun hc4 => ?_)
        ·
          have h4 := of_decide_eq_true hc4
          refine awp_seq ?_
          refine awp_region ?_
          refine r_assign rfl rfl ?_
          refine awl_nil ?_
          refine x_then ?_
          refine awp_ret ?_
          refine x_thenR ?_
          exact ⟨(.inl rfl), _, [], (.one (by first | exact .mk rfl rfl | exact .nil rfl)), ⟨rfl, by simp [cmpI, SV.av, *]⟩, (List.nil_sublist _), (by simp)⟩
        ·
          have h4 := of_decide_eq_false hc4
          refine awp_skip ?_
          refine x_then ?_
          refine awp_seq ?_
          refine awp_region ?_
          refine r_assign rfl rfl ?_
          refine awl_nil ?_
          refine x_then ?_
          refine awp_ret ?_
          exact ⟨(.inl rfl), _, [], (.one (by first | exact .mk rfl rfl | exact .nil rfl)), ⟨rfl, by simp [cmpI, SV.av, *]⟩, (List.nil_sublist _), (by simp)⟩

def cmpL : List Int → List Int → Int
  | [], [] => 0
  | [], _ :: _ => -1
  | _ :: _, [] => 1
  | x :: xs, y :: ys => if cmpI x y ≠ 0 then cmpI x y else cmpL xs ys
theorem drop_at {l : List Int} {k : Nat} {x : Int} (h : l[k]? = some x) : l.drop k = x :: l.drop (k + 1) := by
  obtain ⟨hk, rfl⟩ := List.getElem?_eq_some_iff.1 h
  exact List.drop_eq_getElem_cons hk
theorem cmpL_at {l m : List Int} {k : Nat} {x y : Int} (hx : l[k]? = some x) (hy : m[k]? = some y) : cmpL (l.drop k) (m.drop k) = if cmpI x y ≠ 0 then cmpI x y else cmpL (l.drop (k + 1)) (m.drop (k + 1)) := by
  rw [drop_at hx, drop_at hy]; rfl
theorem cmpL_long {l m : List Int} {k : Nat} {x : Int} (hx : l[k]? = some x) (hy : m.length ≤ k) : cmpL (l.drop k) (m.drop k) = 1 := by
  rw [drop_at hx, List.drop_eq_nil_of_le hy]; rfl
theorem cmpL_end {l m : List Int} {k : Nat} (hx : l.length ≤ k) : cmpL (l.drop k) (m.drop k) = if k < m.length then -1 else 0 := by
  rw [List.drop_eq_nil_of_le hx]
  by_cases h : k < m.length
  · rw [if_pos h, List.drop_eq_getElem_cons h]; rfl
  · rw [if_neg h, List.drop_eq_nil_of_le (by omega)]; rfl
theorem cmpL_two (a b : PL) : cmpL [a.1, a.2] [b.1, b.2] = cmpP a b := by
  unfold cmpP
  by_cases h : cmpI a.1 b.1 = 0
  · by_cases h2 : cmpI a.2 b.2 = 0
    · simp [cmpL, h, h2]
    · simp [cmpL, h, h2]
  · simp [cmpL, h]
theorem keyPD : KeyEnc Try.prog 118 ekP := keyEnc_arr (fun p : PL => [p.1, p.2]) (fun a b h => by simp at h; exact Prod.ext h.1 h.2) (q := .i64) (n := 2) (e := 3) (by kernel_rfl) (by kernel_rfl) (by kernel_rfl) (by kernel_rfl) (by kernel_rfl) (by kernel_rfl) (fun _ => rfl)

theorem compare_ok (l m : List Int) (hl : l.length ≤ 1000000) (hm : m.length ≤ 1000000) : ACq Try.prog 106 [.sl 1 (l.map fun x => [AV.v (.int .i64 x)]), .sl 1 (m.map fun x => [AV.v (.int .i64 x)])] [] (fun r n => n = [] ∧ r = .v (.int .i64 (cmpL l m))) := by
  refine acq_of_awp (rs := [4]) (nt := 36) Try.func106 rfl rfl rfl rfl (fun w0 C0 hq => ?_)
  refine awp_seq ?_
  refine awp_region ?_
  refine r_assign rfl rfl ?_
  refine awl_nil ?_
  refine x_then ?_
  refine awp_seq ?_
  refine awp_seq ?_
  refine awp_region ?_
  refine r_move rfl rfl ?_
  first | (refine r_lenS rfl rfl TD.sl165 rfl ?_) | (refine r_lenNil rfl TD.sl165 rfl ?_)
  refine r_move rfl rfl ?_
  refine awl_nil ?_
  refine x_then ?_
  refine awp_block ?_
  refine awp_loop (fun nn0 S => ∃ k : Nat, S = ⟨36, [(0, .a (.sl 1 (l.map fun x => [AV.v (.int .i64 x)]))), (1, .a (.sl 1 (m.map fun x => [AV.v (.int .i64 x)]))), (9, .a (.sl 1 (l.map fun x => [AV.v (.int .i64 x)]))), (10, .a (.v (.int .i64 ((l.map fun x => [AV.v (.int .i64 x)]).length)))), (11, .a (.v (.int .i64 ((k : Int)))))], []⟩ ∧ nn0 = l.length - k ∧ (k ≤ l.length) ∧ (cmpL l m = cmpL (l.drop k) (m.drop k))) (l.length - (0)) ⟨36, [(0, .a (.sl 1 (l.map fun x => [AV.v (.int .i64 x)]))), (1, .a (.sl 1 (m.map fun x => [AV.v (.int .i64 x)]))), (9, .a (.sl 1 (l.map fun x => [AV.v (.int .i64 x)]))), (10, .a (.v (.int .i64 ((l.map fun x => [AV.v (.int .i64 x)]).length)))), (11, .a (.v (.int .i64 (((0) : Int)))))], []⟩ ⟨rfl, (Slots.cons rfl (by first | exact .refl _ | exact .nilOwn _ _ | exact .nilSl _ | exact .ownSl _ _ _  | exact SV.le.of_eq (by simp)) (Slots.cons rfl (by first | exact .refl _ | exact .nilOwn _ _ | exact .nilSl _ | exact .ownSl _ _ _  | exact SV.le.of_eq (by simp)) (Slots.cons rfl (by first | exact .refl _ | exact .nilOwn _ _ | exact .nilSl _ | exact .ownSl _ _ _  | exact SV.le.of_eq (by simp)) (Slots.cons rfl (by first | exact .refl _ | exact .nilOwn _ _ | exact .nilSl _ | exact .ownSl _ _ _  | exact SV.le.of_eq (by simp)) (Slots.cons rfl (by first | exact .refl _ | exact .nilOwn _ _ | exact .nilSl _ | exact .ownSl _ _ _  | exact SV.le.of_eq (by simp)) Slots.nil))))), (by first | exact List.Sublist.refl _ | exact .cons_cons _ (.cons _ (.refl _)) | exact List.nil_sublist _ | exact .cons _ (.refl _) | exact .cons _ (.cons _ (.refl _)) | exact .cons _ (.cons _ (.cons _ (.refl _))) | exact .cons _ (.cons _ (.cons _ (.cons _ (.refl _)))) | exact .cons_cons _ (List.nil_sublist _))⟩ ⟨0, rfl, rfl, Nat.zero_le _, rfl⟩ ?_
  rintro nn0 _ ⟨k, rfl, rfl, hk, he⟩
  refine awp_seq ?_
  refine awp_region ?_
  refine r_cmp rfl rfl rfl rfl ?_
  refine awl_nil ?_
  refine x_then ?_
  refine awp_seq ?_
  refine awp_cond rfl (fun hc0 => ?_) (fun hc0 => ?_)
  ·
    have hltx : k < l.length := by have := of_decide_eq_true hc0; simpa using this
    obtain ⟨x, hx⟩ := get_lt hltx
    refine awp_skip ?_
    refine x_then ?_
    refine awp_seq ?_
    refine awp_block ?_
    refine awp_seq ?_
    refine awp_region ?_
    refine r_move rfl rfl ?_
    refine r_index rfl rfl rfl TD.sl165 TD.sz3 (by omega) (get_map hx) rfl ?_
    refine r_load1 rfl TD.agg3 rfl ?_
    refine r_assign rfl rfl ?_
    refine r_assign rfl rfl ?_
    refine awl_nil ?_
    refine x_then ?_
    refine awp_seq ?_
    refine awp_seq ?_
    refine awp_region ?_
    refine r_move rfl rfl ?_
    refine r_move rfl rfl ?_
    first | (refine r_lenS rfl rfl TD.sl165 rfl ?_) | (refine r_lenNil rfl TD.sl165 rfl ?_)
    refine r_cmp rfl rfl rfl rfl ?_
    refine awl_nil ?_
    refine x_then ?_
    refine awp_cond rfl (fun hc1 => ?_) (fun hc1 => ?_)
    ·
      have hge : m.length ≤ k := by have := of_decide_eq_true hc1; simp at this; omega
      rw [cmpL_long hx hge] at he
      refine awp_seq ?_
      refine awp_region ?_
      refine r_assign rfl rfl ?_
      refine awl_nil ?_
      refine x_then ?_
      refine awp_ret ?_
      refine x_thenR ?_
      refine x_blockR ?_
      refine x_thenR ?_
      refine x_thenR ?_
      refine x_blockR ?_
      refine x_thenR ?_
      exact ⟨(.inl rfl), _, [], (.one (by first | exact .mk rfl rfl | exact .nil rfl)), ⟨rfl, by rw [he]; rfl⟩, (List.nil_sublist _), (by simp)⟩
    ·
      have hlty : k < m.length := by have := of_decide_eq_false hc1; simp at this; omega
      obtain ⟨y, hy⟩ := get_lt hlty
      refine awp_skip ?_
      refine x_then ?_
      refine awp_seq ?_
      refine awp_region ?_
      refine r_move rfl rfl ?_
      refine r_move rfl rfl ?_
      refine r_index rfl rfl rfl TD.sl165 TD.sz3 (by omega) (get_map hy) rfl ?_
      refine r_load1 rfl TD.agg3 rfl ?_
      refine r_assign rfl rfl ?_
      refine awl_nil ?_
      refine x_then ?_
      refine awp_seq ?_
      refine awp_region ?_
      refine r_move rfl rfl ?_
      refine r_move rfl rfl ?_
      refine r_callq0 rfl rfl (.cons (.ev rfl rfl) (.cons (.ev rfl rfl) .nil)) (cmp_ok x y) rfl TD.en119 rfl (fun r hr => ?_)
      obtain rfl := hr
      refine r_assign rfl rfl ?_
      refine awl_nil ?_
      refine x_then ?_
      refine awp_seq ?_
      refine awp_region ?_
      refine r_move rfl rfl ?_
      refine r_cmp rfl rfl rfl rfl ?_
      refine awl_nil ?_
      refine x_then ?_
      refine awp_cond rfl (fun hc2 => ?_) (fun hc2 => ?_)
      ·
        have h2 : ¬ cmpI x y = 0 := by simpa using hc2
        rw [cmpL_at hx hy, if_pos (by simpa using h2)] at he
        refine awp_seq ?_
        refine awp_region ?_
        refine r_move rfl rfl ?_
        refine r_assign rfl rfl ?_
        refine awl_nil ?_
        refine x_then ?_
        refine awp_ret ?_
        refine x_blockR ?_
        refine x_thenR ?_
        refine x_thenR ?_
        refine x_blockR ?_
        refine x_thenR ?_
        exact ⟨(.inl rfl), _, [], (.one (by first | exact .mk rfl rfl | exact .nil rfl)), ⟨rfl, by rw [he]; rfl⟩, (List.nil_sublist _), (by simp)⟩
      ·
        have h2 : cmpI x y = 0 := by simpa using hc2
        refine awp_skip ?_
        refine x_block ?_
        refine x_then ?_
        refine awp_region ?_
        refine r_ari _ rfl rfl rfl (wrap_id (by first | omega | (simp; omega))) rfl ?_
        refine r_move rfl rfl ?_
        refine awl_nil ?_
        refine x_then ?_
        refine ⟨l.length - (k + 1), ⟨36, [(0, .a (.sl 1 (l.map fun x => [AV.v (.int .i64 x)]))), (1, .a (.sl 1 (m.map fun x => [AV.v (.int .i64 x)]))), (9, .a (.sl 1 (l.map fun x => [AV.v (.int .i64 x)]))), (10, .a (.v (.int .i64 ((l.map fun x => [AV.v (.int .i64 x)]).length)))), (11, .a (.v (.int .i64 (((k + 1) : Int)))))], []⟩, ⟨rfl, (Slots.cons rfl (by first | exact .refl _ | exact .nilOwn _ _ | exact .nilSl _ | exact .ownSl _ _ _  | exact SV.le.of_eq (by simp)) (Slots.cons rfl (by first | exact .refl _ | exact .nilOwn _ _ | exact .nilSl _ | exact .ownSl _ _ _  | exact SV.le.of_eq (by simp)) (Slots.cons rfl (by first | exact .refl _ | exact .nilOwn _ _ | exact .nilSl _ | exact .ownSl _ _ _  | exact SV.le.of_eq (by simp)) (Slots.cons rfl (by first | exact .refl _ | exact .nilOwn _ _ | exact .nilSl _ | exact .ownSl _ _ _  | exact SV.le.of_eq (by simp)) (Slots.cons rfl (by first | exact .refl _ | exact .nilOwn _ _ | exact .nilSl _ | exact .ownSl _ _ _  | exact SV.le.of_eq (by simp)) Slots.nil))))), (by first | exact List.Sublist.refl _ | exact .cons_cons _ (.cons _ (.refl _)) | exact List.nil_sublist _ | exact .cons _ (.refl _) | exact .cons _ (.cons _ (.refl _)) | exact .cons _ (.cons _ (.cons _ (.refl _))) | exact .cons _ (.cons _ (.cons _ (.cons _ (.refl _)))) | exact .cons_cons _ (List.nil_sublist _))⟩, (by omega), ⟨k + 1, rfl, rfl, (by omega), (by rw [he, cmpL_at hx hy, if_neg (by simpa using h2)])⟩⟩
  ·
    have hge : l.length ≤ k := by have := of_decide_eq_false hc0; simp at this; omega
    rw [cmpL_end hge] at he
    refine awp_exit ?_
    refine x_thenE ?_
    refine x_thenE ?_
    refine x_blockE ?_
    refine x_then ?_
    refine awp_seq ?_
    refine awp_seq ?_
    refine awp_region ?_
    refine r_move rfl rfl ?_
    first | (refine r_lenS rfl rfl TD.sl165 rfl ?_) | (refine r_lenNil rfl TD.sl165 rfl ?_)
    refine r_move rfl rfl ?_
    first | (refine r_lenS rfl rfl TD.sl165 rfl ?_) | (refine r_lenNil rfl TD.sl165 rfl ?_)
    refine r_cmp rfl rfl rfl rfl ?_
    refine awl_nil ?_
    refine x_then ?_
    refine awp_cond rfl (fun hc3 => ?_) (fun hc3 => ?_)
    ·
      have h3 : k < m.length := by have := of_decide_eq_true hc3; simp at this; omega
      rw [if_pos h3] at he
      refine awp_seq ?_
      refine awp_region ?_
      refine r_assign rfl rfl ?_
      refine awl_nil ?_
      refine x_then ?_
      refine awp_ret ?_
      refine x_thenR ?_
      exact ⟨(.inl rfl), _, [], (.one (by first | exact .mk rfl rfl | exact .nil rfl)), ⟨rfl, by rw [he]; rfl⟩, (List.nil_sublist _), (by simp)⟩
    ·
      have h3 : ¬ k < m.length := by have := of_decide_eq_false hc3; simp at this; omega
      rw [if_neg h3] at he
      refine awp_skip ?_
      refine x_then ?_
      refine awp_seq ?_
      refine awp_region ?_
      refine r_assign rfl rfl ?_
      refine awl_nil ?_
      refine x_then ?_
      refine awp_ret ?_
      exact ⟨(.inl rfl), _, [], (.one (by first | exact .mk rfl rfl | exact .nil rfl)), ⟨rfl, by rw [he]; rfl⟩, (List.nil_sublist _), (by simp)⟩

theorem compareP_ok (a b : PL) : ACq Try.prog 106 [.sl 1 ((List.drop 0 (PL.cs a)).map fun c => [c]), .sl 1 ((List.drop 0 (PL.cs b)).map fun c => [c])] [] (fun r n => n = [] ∧ r = .v (.int .i64 (cmpP a b))) := by
  have h := compare_ok [a.1, a.2] [b.1, b.2] (by simp) (by simp)
  rw [cmpL_two] at h; exact h

theorem cmpP_okD (a b : PL) : ACq Try.prog 105 [plA a, plA b] [] (fun r n => n = [] ∧ r = .v (.int .i64 (cmpP a b))) := by
  refine acq_of_awp (rs := [4]) (nt := 8) Try.func105 rfl rfl rfl rfl (fun w0 C0 hq => ?_)
  refine awp_seq ?_
  refine awp_region ?_
  refine r_box rfl rfl rfl (fun b2 => ?_)
  refine r_box rfl rfl rfl (fun b3 => ?_)
  refine r_assign rfl rfl ?_
  refine awl_nil ?_
  refine x_then ?_
  refine awp_seq ?_
  refine awp_imp (imp_commit 0 3 rfl rfl rfl rfl) ?_
  refine awp_imp (imp_commit 0 2 rfl rfl rfl rfl) ?_
  refine awp_drawS [5, 6] [_, _] [] [] TD.mixed rfl rfl rfl ⟨⟨trivial
    , ⟨_, rfl, fun sl hd hr ho => by
        refine r_sliceArr (hr 2 _ rfl rfl rfl) TD.un118 TD.sz3 rfl rfl ?_
        exact awl_nil ⟨rfl, post_put⟩⟩⟩
    , ⟨_, rfl, fun sl hd hr ho => by
        refine r_sliceArr (hr 3 _ rfl rfl rfl) TD.un118 TD.sz3 rfl rfl ?_
        exact awl_nil ⟨rfl, post_put⟩⟩⟩
    (by rfl) ?_
  refine r_callq0 rfl rfl (.cons (.ev rfl rfl) (.cons (.ev rfl rfl) .nil)) (compareP_ok a b) rfl TD.en106 rfl (fun r hr => ?_)
  obtain rfl := hr
  refine r_assign rfl rfl ?_
  refine awl_nil ?_
  refine x_then ?_
  refine awp_ret ?_
  exact ⟨(.inl rfl), _, [], (.one (by first | exact .mk rfl rfl | exact .nil rfl)), ⟨rfl, rfl⟩, (List.nil_sublist _), (by simp)⟩

end Go.Proofs.Ytaglbmgpdoophaa.A

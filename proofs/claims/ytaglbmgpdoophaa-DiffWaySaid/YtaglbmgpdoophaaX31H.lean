/- Layer 31: the statements' walks. -/
import Derived.Test.YtaglbmgpdoophaaProg
import Derived.KernelRfl
import Derived.Test.YtaglbmgpdoophaaX31G
namespace Go.Proofs.Ytaglbmgpdoophaa.A
open Go Go.RowKit
set_option linter.unusedVariables false
set_option linter.unusedSimpArgs false
set_option maxRecDepth 100000

theorem TD.en21 : entersT Try.prog 21 := enters_of Try.func21 (by kernel_rfl) (by kernel_rfl)
theorem TD.en23 : entersT Try.prog 23 := enters_of Try.func23 (by kernel_rfl) (by kernel_rfl)
theorem TD.en25 : entersT Try.prog 25 := enters_of Try.func25 (by kernel_rfl) (by kernel_rfl)
theorem TD.en22 : entersT Try.prog 22 := enters_of Try.func22 (by kernel_rfl) (by kernel_rfl)
theorem TD.en26 : entersT Try.prog 26 := enters_of Try.func26 (by kernel_rfl) (by kernel_rfl)
theorem TD.en27 : entersT Try.prog 27 := enters_of Try.func27 (by kernel_rfl) (by kernel_rfl)
theorem TD.en29 : entersT Try.prog 29 := enters_of Try.func29 (by kernel_rfl) (by kernel_rfl)
theorem TD.en31 : entersT Try.prog 31 := enters_of Try.func31 (by kernel_rfl) (by kernel_rfl)
theorem TD.en33 : entersT Try.prog 33 := enters_of Try.func33 (by kernel_rfl) (by kernel_rfl)

theorem entries_law (a b : List Ent) : AC Try.prog 3 [entsA a, entsA b] [] (fun r n => n = [] ∧ r = bA true) := by
  refine ac_of_awp (rs := [4]) (nt := 41) Try.func3 rfl rfl rfl rfl (fun w0 C0 hq => ?_)
  refine awp_seq ?_
  refine awp_region ?_
  refine r_assign rfl rfl ?_
  refine awl_nil ?_
  refine x_then ?_
  refine awp_seq ?_
  refine awp_seq ?_
  refine awp_region ?_
  refine r_call0 hq rfl rfl .nil (awake_ok) rfl TD.en21 rfl (fun r hr => ?_)
  obtain rfl := hr
  refine r_not rfl rfl ?_
  refine awl_nil ?_
  refine x_then ?_
  refine awp_cond rfl (fun hc0 => ?_) (fun hc0 => ?_)
  ·
    exfalso; exact absurd hc0 (by decide)
  ·
    refine awp_skip ?_
    refine x_then ?_
    refine awp_seq ?_
    refine awp_seq ?_
    refine awp_region ?_
    refine r_move rfl rfl ?_
    first | (refine r_lenS rfl rfl TD.sl22 rfl ?_) | (refine r_lenNil rfl TD.sl22 rfl ?_)
    refine r_cmp rfl rfl rfl rfl ?_
    refine r_move rfl rfl ?_
    refine g_cases (t' := 12) rfl (fun hg12 => ?_) (fun hg12 => ?_)
    ·
      refine g_skip rfl rfl hg12 rfl ?_
      refine g_skip rfl rfl hg12 rfl ?_
      refine g_skip rfl rfl hg12 rfl ?_
      refine r_pickT rfl hg12 rfl rfl ?_
      refine awl_nil ?_
      refine x_then ?_
      refine awp_condT rfl ?_
      refine awp_seq ?_
      refine awp_region ?_
      refine r_assign rfl rfl ?_
      refine awl_nil ?_
      refine x_then ?_
      refine awp_ret ?_
      refine x_thenR ?_
      exact ⟨(.inl rfl), _, [], (.one (by first | exact .mk rfl rfl | exact .nil rfl)), ⟨rfl, rfl⟩, (List.nil_sublist _), (by simp)⟩
    ·
      have hla : a.length ≤ 40 := by have := of_decide_eq_false hg12; simp at this; omega
      refine g_run rfl rfl hg12 ?_
      refine r_move rfl rfl ?_
      refine g_run rfl rfl hg12 ?_
      first | (refine r_lenS rfl rfl TD.sl22 rfl ?_) | (refine r_lenNil rfl TD.sl22 rfl ?_)
      refine g_run rfl rfl hg12 ?_
      refine r_cmp rfl rfl rfl rfl ?_
      refine r_pickF rfl hg12 rfl rfl ?_
      refine awl_nil ?_
      refine x_then ?_
      refine awp_cond rfl (fun hc1 => ?_) (fun hc1 => ?_)
      ·
        refine awp_seq ?_
        refine awp_region ?_
        refine r_assign rfl rfl ?_
        refine awl_nil ?_
        refine x_then ?_
        refine awp_ret ?_
        refine x_thenR ?_
        exact ⟨(.inl rfl), _, [], (.one (by first | exact .mk rfl rfl | exact .nil rfl)), ⟨rfl, rfl⟩, (List.nil_sublist _), (by simp)⟩
      ·
        have hlb : b.length ≤ 40 := by have := of_decide_eq_false hc1; simp at this; omega
        have hen := entries_len a b
        refine awp_skip ?_
        refine x_then ?_
        refine awp_seq ?_
        refine awp_region ?_
        refine r_lit 17 (parts := []) rfl TD.sl22 TD.sz110 TD.zraw110 rfl rfl rfl rfl rfl rfl rfl ?_
        refine r_move rfl rfl ?_
        refine r_append 17 rfl (by first | exact .own _ | exact .nil) rfl (by first | exact .sl _ | exact .own _ _ | exact .nil) TD.sl22 TD.sz110 (by decide) TD.by110 TD.zlen110 (by simp [chunks] <;> omega) (by simp [chunks] <;> omega) rfl ?_
        refine r_lit 20 (parts := []) rfl TD.sl22 TD.sz110 TD.zraw110 rfl rfl rfl rfl rfl rfl rfl ?_
        refine r_move rfl rfl ?_
        refine r_append 20 rfl (by first | exact .own _ | exact .nil) rfl (by first | exact .sl _ | exact .own _ _ | exact .nil) TD.sl22 TD.sz110 (by decide) TD.by110 TD.zlen110 (by simp [chunks] <;> omega) (by simp [chunks] <;> omega) rfl ?_
        refine r_assign rfl rfl ?_
        refine r_assign rfl rfl ?_
        refine awl_nil ?_
        refine x_then ?_
        refine awp_seq ?_
        refine awp_region ?_
        refine awl_imp (imp_le 5 (x := .a (entsA a)) rfl (.ownEq (by simp [chunks]))) ?_
        refine awl_imp (imp_le 6 (x := .a (entsA b)) rfl (.ownEq (by simp [chunks]))) ?_
        refine r_move rfl rfl ?_
        refine r_move rfl rfl ?_
        refine r_call0 hq rfl rfl (.cons (.ev rfl rfl) (.cons (.ev rfl rfl) .nil)) (entries_ok a b (by omega) (by omega)) rfl TD.en24 rfl (fun r hr => ?_)
        obtain rfl := hr
        refine r_call0 hq rfl rfl (.cons (.ev rfl rfl) .nil) (plain_ok (entriesF a b) (by omega)) rfl TD.en23 rfl (fun r hr => ?_)
        obtain rfl := hr
        refine r_move rfl rfl ?_
        refine r_move rfl rfl ?_
        refine r_call0 hq rfl rfl (.cons (.ev rfl rfl) (.cons (.ev rfl rfl) .nil)) (rentries_ok a b (by omega) (by omega)) rfl TD.en25 rfl (fun r hr => ?_)
        obtain rfl := hr
        refine r_call0 hq rfl rfl (.cons (.ev rfl rfl) (.cons (.ev rfl rfl) .nil)) (same_ok (entriesF a b) (by omega)) rfl TD.en22 rfl (fun r hr => ?_)
        obtain rfl := hr
        refine r_move rfl rfl ?_
        refine g_run rfl rfl rfl ?_
        refine r_move rfl rfl ?_
        refine g_run rfl rfl rfl ?_
        refine r_move rfl rfl ?_
        refine g_run rfl rfl rfl ?_
        refine r_call0 hq rfl rfl (.cons (.ev rfl rfl) (.cons (.ev rfl rfl) .nil)) (sameE_ok a (by omega)) rfl TD.en26 rfl (fun r hr => ?_)
        obtain rfl := hr
        refine r_pickT rfl rfl rfl rfl ?_
        refine r_move rfl rfl ?_
        refine g_run rfl rfl rfl ?_
        refine r_move rfl rfl ?_
        refine g_run rfl rfl rfl ?_
        refine r_move rfl rfl ?_
        refine g_run rfl rfl rfl ?_
        refine r_call0 hq rfl rfl (.cons (.ev rfl rfl) (.cons (.ev rfl rfl) .nil)) (sameE_ok b (by omega)) rfl TD.en26 rfl (fun r hr => ?_)
        obtain rfl := hr
        refine r_pickT rfl rfl rfl rfl ?_
        refine r_assign rfl rfl ?_
        refine awl_nil ?_
        refine x_then ?_
        refine awp_ret ?_
        exact ⟨(.inl rfl), _, [], (.one (by first | exact .mk rfl rfl | exact .nil rfl)), ⟨rfl, rfl⟩, (List.nil_sublist _), (by simp)⟩

set_option maxHeartbeats 1000000 in
theorem applies_law (l : List Ent) (d : List Chg) : AC Try.prog 4 [entsA l, chgsA d] [] (fun r n => n = [] ∧ r = bA true) := by
  refine ac_of_awp (rs := [4]) (nt := 74) Try.func4 rfl rfl rfl rfl (fun w0 C0 hq => ?_)
  refine awp_seq ?_
  refine awp_region ?_
  refine r_assign rfl rfl ?_
  refine awl_nil ?_
  refine x_then ?_
  refine awp_seq ?_
  refine awp_seq ?_
  refine awp_region ?_
  refine r_call0 hq rfl rfl .nil (awake_ok) rfl TD.en21 rfl (fun r hr => ?_)
  obtain rfl := hr
  refine r_not rfl rfl ?_
  refine awl_nil ?_
  refine x_then ?_
  refine awp_cond rfl (fun hc0 => ?_) (fun hc0 => ?_)
  ·
    exfalso; exact absurd hc0 (by decide)
  ·
    refine awp_skip ?_
    refine x_then ?_
    refine awp_seq ?_
    refine awp_seq ?_
    refine awp_region ?_
    refine r_move rfl rfl ?_
    first | (refine r_lenS rfl rfl TD.sl22 rfl ?_) | (refine r_lenNil rfl TD.sl22 rfl ?_)
    refine r_cmp rfl rfl rfl rfl ?_
    refine r_move rfl rfl ?_
    refine g_cases (t' := 16) rfl (fun hg16 => ?_) (fun hg16 => ?_)
    ·
      refine g_skip rfl rfl hg16 rfl ?_
      refine g_skip rfl rfl hg16 rfl ?_
      refine g_skip rfl rfl hg16 rfl ?_
      refine r_pickT rfl hg16 rfl rfl ?_
      refine awl_nil ?_
      refine x_then ?_
      refine awp_condT rfl ?_
      refine awp_seq ?_
      refine awp_region ?_
      refine r_assign rfl rfl ?_
      refine awl_nil ?_
      refine x_then ?_
      refine awp_ret ?_
      refine x_thenR ?_
      exact ⟨(.inl rfl), _, [], (.one (by first | exact .mk rfl rfl | exact .nil rfl)), ⟨rfl, rfl⟩, (List.nil_sublist _), (by simp)⟩
    ·
      have hll : l.length ≤ 40 := by have := of_decide_eq_false hg16; simp at this; omega
      refine g_run rfl rfl hg16 ?_
      refine r_move rfl rfl ?_
      refine g_run rfl rfl hg16 ?_
      first | (refine r_lenS rfl rfl TD.sl25 rfl ?_) | (refine r_lenNil rfl TD.sl25 rfl ?_)
      refine g_run rfl rfl hg16 ?_
      refine r_cmp rfl rfl rfl rfl ?_
      refine r_pickF rfl hg16 rfl rfl ?_
      refine awl_nil ?_
      refine x_then ?_
      refine awp_cond rfl (fun hc1 => ?_) (fun hc1 => ?_)
      ·
        refine awp_seq ?_
        refine awp_region ?_
        refine r_assign rfl rfl ?_
        refine awl_nil ?_
        refine x_then ?_
        refine awp_ret ?_
        refine x_thenR ?_
        exact ⟨(.inl rfl), _, [], (.one (by first | exact .mk rfl rfl | exact .nil rfl)), ⟨rfl, rfl⟩, (List.nil_sublist _), (by simp)⟩
      ·
        have hld : d.length ≤ 20 := by have := of_decide_eq_false hc1; simp at this; omega
        have htl : (turnF d).length = d.length := by simp [turnF]
        refine awp_skip ?_
        refine x_then ?_
        refine awp_seq ?_
        refine awp_region ?_
        refine r_lit 21 (parts := []) rfl TD.sl22 TD.sz110 TD.zraw110 rfl rfl rfl rfl rfl rfl rfl ?_
        refine r_move rfl rfl ?_
        refine r_append 21 rfl (by first | exact .own _ | exact .nil) rfl (by first | exact .sl _ | exact .own _ _ | exact .nil) TD.sl22 TD.sz110 (by decide) TD.by110 TD.zlen110 (by simp [chunks] <;> omega) (by simp [chunks] <;> omega) rfl ?_
        refine r_move rfl rfl ?_
        refine r_call0 hq rfl rfl (.cons (.ev rfl rfl) .nil) (changes_ok d (by omega)) rfl TD.en27 rfl (fun r hr => ?_)
        obtain rfl := hr
        refine r_assign rfl rfl ?_
        refine r_assign rfl rfl ?_
        refine awl_nil ?_
        refine x_then ?_
        refine awp_seq ?_
        refine awp_region ?_
        refine awl_imp (imp_le 5 (x := .a (entsA l)) rfl (.ownEq (by simp [chunks]))) ?_
        refine r_move rfl rfl ?_
        refine r_move rfl rfl ?_
        refine r_call0 hq rfl rfl (.cons (.ev rfl rfl) (.cons (.ev rfl rfl) .nil)) (apply_ok l d (by omega) (by omega)) rfl TD.en28 rfl (fun r hr => ?_)
        skip
        rcases hr with ⟨l', ha, rfl⟩ | ⟨ha, rfl⟩
        ·
          have hn1 := apply_len ha
          have hn2 := clean_len l'
          refine r_move rfl rfl ?_
          refine r_extract rfl rfl rfl ?_
          refine r_extract rfl rfl rfl ?_
          refine r_assign rfl rfl ?_
          refine r_assign rfl rfl ?_
          refine awl_nil ?_
          refine x_then ?_
          refine awp_seq ?_
          refine awp_region ?_
          refine r_move rfl rfl ?_
          refine r_move rfl rfl ?_
          refine r_call0 hq rfl rfl (.cons (.ev rfl rfl) (.cons (.ev rfl rfl) .nil)) (rapply_ok l d (by omega) (by omega)) rfl TD.en29 rfl (fun r hr => ?_)
          obtain rfl : r = .tup [entsA (cleanF l'), bA true] := by
            rcases hr with ⟨l2, h1, h2⟩ | ⟨h1, h2⟩
            · rw [ha] at h1; cases h1; exact h2
            · rw [ha] at h1; cases h1
          refine r_move rfl rfl ?_
          refine r_extract rfl rfl rfl ?_
          refine r_extract rfl rfl rfl ?_
          refine r_assign rfl rfl ?_
          refine r_assign rfl rfl ?_
          refine awl_nil ?_
          refine x_then ?_
          refine awp_seq ?_
          refine awp_seq ?_
          refine awp_region ?_
          refine r_move rfl rfl ?_
          refine r_move rfl rfl ?_
          refine r_call0 hq rfl rfl (.cons (.ev rfl rfl) (.cons (.ev rfl rfl) .nil)) (sameE_ok l (by omega)) rfl TD.en26 rfl (fun r hr => ?_)
          obtain rfl := hr
          refine r_not rfl rfl ?_
          refine r_move rfl rfl ?_
          refine g_run rfl rfl rfl ?_
          refine r_move rfl rfl ?_
          refine g_run rfl rfl rfl ?_
          refine r_call0 hq rfl rfl (.cons (.ev rfl rfl) .nil) (plain_ok d (by omega)) rfl TD.en23 rfl (fun r hr => ?_)
          obtain rfl := hr
          refine g_run rfl rfl rfl ?_
          refine r_move rfl rfl ?_
          refine g_run rfl rfl rfl ?_
          refine r_call0 hq rfl rfl (.cons (.ev rfl rfl) (.cons (.ev rfl rfl) .nil)) (same_ok d (by omega)) rfl TD.en22 rfl (fun r hr => ?_)
          obtain rfl := hr
          refine g_run rfl rfl rfl ?_
          refine r_not rfl rfl ?_
          refine r_pickF rfl rfl rfl rfl ?_
          refine r_move rfl rfl ?_
          refine g_run rfl rfl rfl ?_
          refine r_move rfl rfl ?_
          refine g_run rfl rfl rfl ?_
          refine r_call0 hq rfl rfl (.cons (.ev rfl rfl) .nil) (turn_ok d (by omega)) rfl TD.en30 rfl (fun r hr => ?_)
          obtain rfl := hr
          refine g_run rfl rfl rfl ?_
          refine r_call0 hq rfl rfl (.cons (.ev rfl rfl) .nil) (plain_ok (turnF d) (by omega)) rfl TD.en23 rfl (fun r hr => ?_)
          obtain rfl := hr
          refine g_run rfl rfl rfl ?_
          refine r_move rfl rfl ?_
          refine g_run rfl rfl rfl ?_
          refine r_call0 hq rfl rfl (.cons (.ev rfl rfl) .nil) (rturn_ok d (by omega)) rfl TD.en31 rfl (fun r hr => ?_)
          obtain rfl := hr
          refine g_run rfl rfl rfl ?_
          refine r_call0 hq rfl rfl (.cons (.ev rfl rfl) (.cons (.ev rfl rfl) .nil)) (same_ok (turnF d) (by omega)) rfl TD.en22 rfl (fun r hr => ?_)
          obtain rfl := hr
          refine g_run rfl rfl rfl ?_
          refine r_not rfl rfl ?_
          refine r_pickF rfl rfl rfl rfl ?_
          refine awl_nil ?_
          refine x_then ?_
          refine awp_cond rfl (fun hc2 => ?_) (fun hc2 => ?_)
          ·
            exfalso; exact absurd hc2 (by decide)
          ·
            refine awp_skip ?_
            refine x_then ?_
            refine awp_seq ?_
            refine awp_seq ?_
            refine awp_region ?_
            refine r_move rfl rfl ?_
            refine r_not rfl rfl ?_
            refine awl_nil ?_
            refine x_then ?_
            refine awp_cond rfl (fun hc3 => ?_) (fun hc3 => ?_)
            ·
              exfalso; exact absurd hc3 (by decide)
            ·
              refine awp_skip ?_
              refine x_then ?_
              refine awp_seq ?_
              refine awp_region ?_
              refine r_move rfl rfl ?_
              refine r_cmp rfl rfl rfl rfl ?_
              refine r_move rfl rfl ?_
              refine g_run rfl rfl rfl ?_
              refine r_move rfl rfl ?_
              refine g_run rfl rfl rfl ?_
              refine r_move rfl rfl ?_
              refine g_run rfl rfl rfl ?_
              refine r_call0 hq rfl rfl (.cons (.ev rfl rfl) (.cons (.ev rfl rfl) .nil)) (sameE_ok (cleanF l') (by omega)) rfl TD.en26 rfl (fun r hr => ?_)
              obtain rfl := hr
              refine r_pickT rfl rfl rfl rfl ?_
              refine r_assign rfl rfl ?_
              refine awl_nil ?_
              refine x_then ?_
              refine awp_ret ?_
              exact ⟨(.inl rfl), _, [], (.one (by first | exact .mk rfl rfl | exact .nil rfl)), ⟨rfl, rfl⟩, (List.nil_sublist _), (by simp)⟩
        ·
          refine r_move rfl rfl ?_
          refine r_extract rfl rfl rfl ?_
          refine r_extract rfl rfl rfl ?_
          refine r_assign rfl rfl ?_
          refine r_assign rfl rfl ?_
          refine awl_nil ?_
          refine x_then ?_
          refine awp_seq ?_
          refine awp_region ?_
          refine r_move rfl rfl ?_
          refine r_move rfl rfl ?_
          refine r_call0 hq rfl rfl (.cons (.ev rfl rfl) (.cons (.ev rfl rfl) .nil)) (rapply_ok l d (by omega) (by omega)) rfl TD.en29 rfl (fun r hr => ?_)
          obtain rfl : r = .tup [.v (.slice none 0 0), bA false] := by
            rcases hr with ⟨l2, h1, h2⟩ | ⟨h1, h2⟩
            · rw [ha] at h1; cases h1
            · exact h2
          refine r_move rfl rfl ?_
          refine r_extract rfl rfl rfl ?_
          refine r_extract rfl rfl rfl ?_
          refine r_assign rfl rfl ?_
          refine r_assign rfl rfl ?_
          refine awl_nil ?_
          refine x_then ?_
          refine awp_seq ?_
          refine awp_seq ?_
          refine awp_region ?_
          refine r_move rfl rfl ?_
          refine r_move rfl rfl ?_
          refine r_call0 hq rfl rfl (.cons (.ev rfl rfl) (.cons (.ev rfl rfl) .nil)) (sameE_ok l (by omega)) rfl TD.en26 rfl (fun r hr => ?_)
          obtain rfl := hr
          refine r_not rfl rfl ?_
          refine r_move rfl rfl ?_
          refine g_run rfl rfl rfl ?_
          refine r_move rfl rfl ?_
          refine g_run rfl rfl rfl ?_
          refine r_call0 hq rfl rfl (.cons (.ev rfl rfl) .nil) (plain_ok d (by omega)) rfl TD.en23 rfl (fun r hr => ?_)
          obtain rfl := hr
          refine g_run rfl rfl rfl ?_
          refine r_move rfl rfl ?_
          refine g_run rfl rfl rfl ?_
          refine r_call0 hq rfl rfl (.cons (.ev rfl rfl) (.cons (.ev rfl rfl) .nil)) (same_ok d (by omega)) rfl TD.en22 rfl (fun r hr => ?_)
          obtain rfl := hr
          refine g_run rfl rfl rfl ?_
          refine r_not rfl rfl ?_
          refine r_pickF rfl rfl rfl rfl ?_
          refine r_move rfl rfl ?_
          refine g_run rfl rfl rfl ?_
          refine r_move rfl rfl ?_
          refine g_run rfl rfl rfl ?_
          refine r_call0 hq rfl rfl (.cons (.ev rfl rfl) .nil) (turn_ok d (by omega)) rfl TD.en30 rfl (fun r hr => ?_)
          obtain rfl := hr
          refine g_run rfl rfl rfl ?_
          refine r_call0 hq rfl rfl (.cons (.ev rfl rfl) .nil) (plain_ok (turnF d) (by omega)) rfl TD.en23 rfl (fun r hr => ?_)
          obtain rfl := hr
          refine g_run rfl rfl rfl ?_
          refine r_move rfl rfl ?_
          refine g_run rfl rfl rfl ?_
          refine r_call0 hq rfl rfl (.cons (.ev rfl rfl) .nil) (rturn_ok d (by omega)) rfl TD.en31 rfl (fun r hr => ?_)
          obtain rfl := hr
          refine g_run rfl rfl rfl ?_
          refine r_call0 hq rfl rfl (.cons (.ev rfl rfl) (.cons (.ev rfl rfl) .nil)) (same_ok (turnF d) (by omega)) rfl TD.en22 rfl (fun r hr => ?_)
          obtain rfl := hr
          refine g_run rfl rfl rfl ?_
          refine r_not rfl rfl ?_
          refine r_pickF rfl rfl rfl rfl ?_
          refine awl_nil ?_
          refine x_then ?_
          refine awp_cond rfl (fun hc2 => ?_) (fun hc2 => ?_)
          ·
            exfalso; exact absurd hc2 (by decide)
          ·
            refine awp_skip ?_
            refine x_then ?_
            refine awp_seq ?_
            refine awp_seq ?_
            refine awp_region ?_
            refine r_move rfl rfl ?_
            refine r_not rfl rfl ?_
            refine awl_nil ?_
            refine x_then ?_
            refine awp_cond rfl (fun hc3 => ?_) (fun hc3 => ?_)
            ·
              refine awp_seq ?_
              refine awp_region ?_
              refine r_move rfl rfl ?_
              refine r_cmp rfl rfl rfl rfl ?_
              refine r_move rfl rfl ?_
              refine g_run rfl rfl rfl ?_
              refine r_move rfl rfl ?_
              refine g_run rfl rfl rfl ?_
              first | (refine r_lenS rfl rfl TD.sl22 rfl ?_) | (refine r_lenNil rfl TD.sl22 rfl ?_)
              refine g_run rfl rfl rfl ?_
              refine r_cmp rfl rfl rfl rfl ?_
              refine r_pickT rfl rfl rfl rfl ?_
              refine r_assign rfl rfl ?_
              refine awl_nil ?_
              refine x_then ?_
              refine awp_ret ?_
              refine x_thenR ?_
              exact ⟨(.inl rfl), _, [], (.one (by first | exact .mk rfl rfl | exact .nil rfl)), ⟨rfl, rfl⟩, (List.nil_sublist _), (by simp)⟩
            ·
              exfalso; exact absurd hc3 (by decide)

set_option maxHeartbeats 1000000 in
theorem turns_law (a b : List Ent) : AC Try.prog 5 [entsA a, entsA b] [] (fun r n => n = [] ∧ r = bA true) := by
  refine ac_of_awp (rs := [4]) (nt := 87) Try.func5 rfl rfl rfl rfl (fun w0 C0 hq => ?_)
  refine awp_seq ?_
  refine awp_region ?_
  refine r_assign rfl rfl ?_
  refine awl_nil ?_
  refine x_then ?_
  refine awp_seq ?_
  refine awp_seq ?_
  refine awp_region ?_
  refine r_call0 hq rfl rfl .nil (awake_ok) rfl TD.en21 rfl (fun r hr => ?_)
  obtain rfl := hr
  refine r_not rfl rfl ?_
  refine awl_nil ?_
  refine x_then ?_
  refine awp_cond rfl (fun hc0 => ?_) (fun hc0 => ?_)
  ·
    exfalso; exact absurd hc0 (by decide)
  ·
    refine awp_skip ?_
    refine x_then ?_
    refine awp_seq ?_
    refine awp_seq ?_
    refine awp_region ?_
    refine r_move rfl rfl ?_
    first | (refine r_lenS rfl rfl TD.sl22 rfl ?_) | (refine r_lenNil rfl TD.sl22 rfl ?_)
    refine r_cmp rfl rfl rfl rfl ?_
    refine r_move rfl rfl ?_
    refine g_cases (t' := 16) rfl (fun hg16 => ?_) (fun hg16 => ?_)
    ·
      refine g_skip rfl rfl hg16 rfl ?_
      refine g_skip rfl rfl hg16 rfl ?_
      refine g_skip rfl rfl hg16 rfl ?_
      refine r_pickT rfl hg16 rfl rfl ?_
      refine awl_nil ?_
      refine x_then ?_
      refine awp_condT rfl ?_
      refine awp_seq ?_
      refine awp_region ?_
      refine r_assign rfl rfl ?_
      refine awl_nil ?_
      refine x_then ?_
      refine awp_ret ?_
      refine x_thenR ?_
      exact ⟨(.inl rfl), _, [], (.one (by first | exact .mk rfl rfl | exact .nil rfl)), ⟨rfl, rfl⟩, (List.nil_sublist _), (by simp)⟩
    ·
      have hla : a.length ≤ 40 := by have := of_decide_eq_false hg16; simp at this; omega
      refine g_run rfl rfl hg16 ?_
      refine r_move rfl rfl ?_
      refine g_run rfl rfl hg16 ?_
      first | (refine r_lenS rfl rfl TD.sl22 rfl ?_) | (refine r_lenNil rfl TD.sl22 rfl ?_)
      refine g_run rfl rfl hg16 ?_
      refine r_cmp rfl rfl rfl rfl ?_
      refine r_pickF rfl hg16 rfl rfl ?_
      refine awl_nil ?_
      refine x_then ?_
      refine awp_cond rfl (fun hc1 => ?_) (fun hc1 => ?_)
      ·
        refine awp_seq ?_
        refine awp_region ?_
        refine r_assign rfl rfl ?_
        refine awl_nil ?_
        refine x_then ?_
        refine awp_ret ?_
        refine x_thenR ?_
        exact ⟨(.inl rfl), _, [], (.one (by first | exact .mk rfl rfl | exact .nil rfl)), ⟨rfl, rfl⟩, (List.nil_sublist _), (by simp)⟩
      ·
        have hlb : b.length ≤ 40 := by have := of_decide_eq_false hc1; simp at this; omega
        have hen := entries_len a b
        obtain ⟨l1, h11, h12⟩ := apply_entries a a b (fun _ => rfl)
        have n1 := apply_len h11
        obtain ⟨l2, h21, h22⟩ := apply_turned (cleanF l1) a b (fun p => by rw [shows_clean, h12])
        have n2 := apply_len h21
        have m1 := clean_len l1
        have m2 := clean_len l2
        have e1 : cleanF b = cleanF l1 := (clean_ext h12).symm
        have e2 : cleanF a = cleanF l2 := (clean_ext h22).symm
        have tl : (turnF (entriesF a b)).length = (entriesF a b).length := by simp [turnF]
        refine awp_skip ?_
        refine x_then ?_
        refine awp_seq ?_
        refine awp_region ?_
        refine r_move rfl rfl ?_
        refine r_move rfl rfl ?_
        refine r_call0 hq rfl rfl (.cons (.ev rfl rfl) (.cons (.ev rfl rfl) .nil)) (entries_ok a b (by omega) (by omega)) rfl TD.en24 rfl (fun r hr => ?_)
        obtain rfl := hr
        refine r_assign rfl rfl ?_
        refine awl_nil ?_
        refine x_then ?_
        refine awp_seq ?_
        refine awp_region ?_
        refine r_move rfl rfl ?_
        refine r_move rfl rfl ?_
        refine r_call0 hq rfl rfl (.cons (.ev rfl rfl) (.cons (.ev rfl rfl) .nil)) (apply_ok a (entriesF a b) (by omega) (by omega)) rfl TD.en28 rfl (fun r hr => ?_)
        obtain rfl : r = .tup [entsA (cleanF l1), .v (.int .i64 0)] := by
          rcases hr with ⟨l9, h1, h2⟩ | ⟨h1, h2⟩
          · rw [h11] at h1; cases h1; exact h2
          · rw [h11] at h1; cases h1
        refine r_move rfl rfl ?_
        refine r_extract rfl rfl rfl ?_
        refine r_extract rfl rfl rfl ?_
        refine r_assign rfl rfl ?_
        refine r_assign rfl rfl ?_
        refine awl_nil ?_
        refine x_then ?_
        refine awp_seq ?_
        refine awp_region ?_
        refine r_move rfl rfl ?_
        refine r_move rfl rfl ?_
        refine r_call0 hq rfl rfl (.cons (.ev rfl rfl) .nil) (turn_ok (entriesF a b) (by omega)) rfl TD.en30 rfl (fun r hr => ?_)
        obtain rfl := hr
        refine r_call0 hq rfl rfl (.cons (.ev rfl rfl) (.cons (.ev rfl rfl) .nil)) (apply_ok (cleanF l1) (turnF (entriesF a b)) (by omega) (by omega)) rfl TD.en28 rfl (fun r hr => ?_)
        obtain rfl : r = .tup [entsA (cleanF l2), .v (.int .i64 0)] := by
          rcases hr with ⟨l9, h1, h2⟩ | ⟨h1, h2⟩
          · rw [h21] at h1; cases h1; exact h2
          · rw [h21] at h1; cases h1
        refine r_move rfl rfl ?_
        refine r_extract rfl rfl rfl ?_
        refine r_extract rfl rfl rfl ?_
        refine r_assign rfl rfl ?_
        refine r_assign rfl rfl ?_
        refine awl_nil ?_
        refine x_then ?_
        refine awp_seq ?_
        refine awp_seq ?_
        refine awp_region ?_
        refine r_move rfl rfl ?_
        refine r_cmp rfl rfl rfl rfl ?_
        refine r_move rfl rfl ?_
        refine g_run rfl rfl rfl ?_
        refine r_move rfl rfl ?_
        refine g_run rfl rfl rfl ?_
        refine r_cmp rfl rfl rfl rfl ?_
        refine r_pickF rfl rfl rfl rfl ?_
        refine r_move rfl rfl ?_
        refine g_run rfl rfl rfl ?_
        refine r_move rfl rfl ?_
        refine g_run rfl rfl rfl ?_
        refine r_move rfl rfl ?_
        refine g_run rfl rfl rfl ?_
        refine r_call0 hq rfl rfl (.cons (.ev rfl rfl) (.cons (.ev rfl rfl) .nil)) (entries_ok (cleanF l1) b (by omega) (by omega)) rfl TD.en24 rfl (fun r hr => ?_)
        obtain rfl := hr
        rw [entries_nil (a := cleanF l1) (b := b) (fun p => by rw [shows_clean, h12])]
        refine g_run rfl rfl rfl ?_
        first | (refine r_lenS rfl rfl TD.sl27 rfl ?_) | (refine r_lenNil rfl TD.sl27 rfl ?_)
        refine g_run rfl rfl rfl ?_
        refine r_cmp rfl rfl rfl rfl ?_
        refine r_pickF rfl rfl rfl rfl ?_
        refine r_move rfl rfl ?_
        refine g_run rfl rfl rfl ?_
        refine r_move rfl rfl ?_
        refine g_run rfl rfl rfl ?_
        refine r_move rfl rfl ?_
        refine g_run rfl rfl rfl ?_
        refine r_call0 hq rfl rfl (.cons (.ev rfl rfl) (.cons (.ev rfl rfl) .nil)) (entries_ok (cleanF l2) a (by omega) (by omega)) rfl TD.en24 rfl (fun r hr => ?_)
        obtain rfl := hr
        rw [entries_nil (a := cleanF l2) (b := a) (fun p => by rw [shows_clean, h22])]
        refine g_run rfl rfl rfl ?_
        first | (refine r_lenS rfl rfl TD.sl27 rfl ?_) | (refine r_lenNil rfl TD.sl27 rfl ?_)
        refine g_run rfl rfl rfl ?_
        refine r_cmp rfl rfl rfl rfl ?_
        refine r_pickF rfl rfl rfl rfl ?_
        refine awl_nil ?_
        refine x_then ?_
        refine awp_cond rfl (fun hc2 => ?_) (fun hc2 => ?_)
        ·
          exfalso; exact absurd hc2 (by decide)
        ·
          refine awp_skip ?_
          refine x_then ?_
          refine awp_seq ?_
          refine awp_region ?_
          refine r_move rfl rfl ?_
          refine r_call0 hq rfl rfl (.cons (.ev rfl rfl) .nil) (turn_ok (entriesF a b) (by omega)) rfl TD.en30 rfl (fun r hr => ?_)
          obtain rfl := hr
          refine r_call0 hq rfl rfl (.cons (.ev rfl rfl) .nil) (turn_ok (turnF (entriesF a b)) (by omega)) rfl TD.en30 rfl (fun r hr => ?_)
          obtain rfl := hr
          rw [turn_turn]
          refine r_assign rfl rfl ?_
          refine awl_nil ?_
          refine x_then ?_
          refine awp_seq ?_
          refine awp_region ?_
          refine r_move rfl rfl ?_
          refine r_call0 hq rfl rfl (.cons (.ev rfl rfl) .nil) (plain_ok (entriesF a b) (by omega)) rfl TD.en23 rfl (fun r hr => ?_)
          obtain rfl := hr
          refine r_move rfl rfl ?_
          refine r_call0 hq rfl rfl (.cons (.ev rfl rfl) .nil) (plain_ok (entriesF a b) (by omega)) rfl TD.en23 rfl (fun r hr => ?_)
          obtain rfl := hr
          refine r_call0 hq rfl rfl (.cons (.ev rfl rfl) (.cons (.ev rfl rfl) .nil)) (same_ok (entriesF a b) (by omega)) rfl TD.en22 rfl (fun r hr => ?_)
          obtain rfl := hr
          refine r_move rfl rfl ?_
          refine g_run rfl rfl rfl ?_
          refine r_move rfl rfl ?_
          refine g_run rfl rfl rfl ?_
          refine r_move rfl rfl ?_
          refine g_run rfl rfl rfl ?_
          refine r_call0 hq rfl rfl (.cons (.ev rfl rfl) .nil) (rclean_ok b (by omega)) rfl TD.en32 rfl (fun r hr => ?_)
          obtain rfl := hr
          rw [e1]
          refine g_run rfl rfl rfl ?_
          refine r_call0 hq rfl rfl (.cons (.ev rfl rfl) (.cons (.ev rfl rfl) .nil)) (sameE_ok (cleanF l1) (by omega)) rfl TD.en26 rfl (fun r hr => ?_)
          obtain rfl := hr
          refine r_pickT rfl rfl rfl rfl ?_
          refine r_move rfl rfl ?_
          refine g_run rfl rfl rfl ?_
          refine r_move rfl rfl ?_
          refine g_run rfl rfl rfl ?_
          refine r_move rfl rfl ?_
          refine g_run rfl rfl rfl ?_
          refine r_call0 hq rfl rfl (.cons (.ev rfl rfl) .nil) (rclean_ok a (by omega)) rfl TD.en32 rfl (fun r hr => ?_)
          obtain rfl := hr
          rw [e2]
          refine g_run rfl rfl rfl ?_
          refine r_call0 hq rfl rfl (.cons (.ev rfl rfl) (.cons (.ev rfl rfl) .nil)) (sameE_ok (cleanF l2) (by omega)) rfl TD.en26 rfl (fun r hr => ?_)
          obtain rfl := hr
          refine r_pickT rfl rfl rfl rfl ?_
          refine r_move rfl rfl ?_
          refine g_run rfl rfl rfl ?_
          refine r_move rfl rfl ?_
          refine g_run rfl rfl rfl ?_
          refine r_move rfl rfl ?_
          refine g_run rfl rfl rfl ?_
          refine r_call0 hq rfl rfl (.cons (.ev rfl rfl) (.cons (.ev rfl rfl) .nil)) (entries_ok b a (by omega) (by omega)) rfl TD.en24 rfl (fun r hr => ?_)
          obtain rfl := hr
          rw [entries_back a b]
          refine g_run rfl rfl rfl ?_
          refine r_call0 hq rfl rfl (.cons (.ev rfl rfl) .nil) (plain_ok ((entriesF a b).map Chg.turn) (by simp; omega)) rfl TD.en23 rfl (fun r hr => ?_)
          obtain rfl := hr
          refine g_run rfl rfl rfl ?_
          refine r_move rfl rfl ?_
          refine g_run rfl rfl rfl ?_
          refine r_call0 hq rfl rfl (.cons (.ev rfl rfl) .nil) (bk_ok (entriesF a b) (by omega)) rfl TD.en33 rfl (fun r hr => ?_)
          obtain rfl := hr
          refine g_run rfl rfl rfl ?_
          refine r_call0 hq rfl rfl (.cons (.ev rfl rfl) .nil) (plain_ok ((entriesF a b).map Chg.turn) (by simp; omega)) rfl TD.en23 rfl (fun r hr => ?_)
          obtain rfl := hr
          refine g_run rfl rfl rfl ?_
          refine r_call0 hq rfl rfl (.cons (.ev rfl rfl) (.cons (.ev rfl rfl) .nil)) (same_ok ((entriesF a b).map Chg.turn) (by simp; omega)) rfl TD.en22 rfl (fun r hr => ?_)
          obtain rfl := hr
          refine r_pickT rfl rfl rfl rfl ?_
          refine r_assign rfl rfl ?_
          refine awl_nil ?_
          refine x_then ?_
          refine awp_ret ?_
          exact ⟨(.inl rfl), _, [], (.one (by first | exact .mk rfl rfl | exact .nil rfl)), ⟨rfl, rfl⟩, (List.nil_sublist _), (by simp)⟩

set_option maxHeartbeats 1000000 in
theorem way_law (a b c : List Ent) : AC Try.prog 6 [entsA a, entsA b, entsA c] [] (fun r n => n = [] ∧ r = bA true) := by
  refine ac_of_awp (rs := [6]) (nt := 66) Try.func6 rfl rfl rfl rfl (fun w0 C0 hq => ?_)
  refine awp_seq ?_
  refine awp_region ?_
  refine r_assign rfl rfl ?_
  refine awl_nil ?_
  refine x_then ?_
  refine awp_seq ?_
  refine awp_seq ?_
  refine awp_region ?_
  refine r_call0 hq rfl rfl .nil (awake_ok) rfl TD.en21 rfl (fun r hr => ?_)
  obtain rfl := hr
  refine r_not rfl rfl ?_
  refine awl_nil ?_
  refine x_then ?_
  refine awp_cond rfl (fun hc0 => ?_) (fun hc0 => ?_)
  ·
    exfalso; exact absurd hc0 (by decide)
  ·
    refine awp_skip ?_
    refine x_then ?_
    refine awp_seq ?_
    refine awp_seq ?_
    refine awp_region ?_
    refine r_move rfl rfl ?_
    first | (refine r_lenS rfl rfl TD.sl22 rfl ?_) | (refine r_lenNil rfl TD.sl22 rfl ?_)
    refine r_cmp rfl rfl rfl rfl ?_
    refine r_move rfl rfl ?_
    refine g_cases (t' := 17) rfl (fun hg17 => ?_) (fun hg17 => ?_)
    ·
      refine g_skip rfl rfl hg17 rfl ?_
      refine g_skip rfl rfl hg17 rfl ?_
      refine g_skip rfl rfl hg17 rfl ?_
      refine r_pickT rfl hg17 rfl rfl ?_
      refine r_move rfl rfl ?_
      refine g_skip rfl rfl rfl rfl ?_
      refine g_skip rfl rfl rfl rfl ?_
      refine g_skip rfl rfl rfl rfl ?_
      refine r_pickT rfl rfl rfl rfl ?_
      refine awl_nil ?_
      refine x_then ?_
      refine awp_condT rfl ?_
      refine awp_seq ?_
      refine awp_region ?_
      refine r_assign rfl rfl ?_
      refine awl_nil ?_
      refine x_then ?_
      refine awp_ret ?_
      refine x_thenR ?_
      exact ⟨(.inl rfl), _, [], (.one (by first | exact .mk rfl rfl | exact .nil rfl)), ⟨rfl, rfl⟩, (List.nil_sublist _), (by simp)⟩
    ·
      have hla : a.length ≤ 40 := by have := of_decide_eq_false hg17; simp at this; omega
      refine g_run rfl rfl hg17 ?_
      refine r_move rfl rfl ?_
      refine g_run rfl rfl hg17 ?_
      first | (refine r_lenS rfl rfl TD.sl22 rfl ?_) | (refine r_lenNil rfl TD.sl22 rfl ?_)
      refine g_run rfl rfl hg17 ?_
      refine r_cmp rfl rfl rfl rfl ?_
      refine r_pickF rfl hg17 rfl rfl ?_
      refine r_move rfl rfl ?_
      refine g_cases (t' := 22) rfl (fun hg22 => ?_) (fun hg22 => ?_)
      ·
        refine g_skip rfl rfl hg22 rfl ?_
        refine g_skip rfl rfl hg22 rfl ?_
        refine g_skip rfl rfl hg22 rfl ?_
        refine r_pickT rfl hg22 rfl rfl ?_
        refine awl_nil ?_
        refine x_then ?_
        refine awp_condT rfl ?_
        refine awp_seq ?_
        refine awp_region ?_
        refine r_assign rfl rfl ?_
        refine awl_nil ?_
        refine x_then ?_
        refine awp_ret ?_
        refine x_thenR ?_
        exact ⟨(.inl rfl), _, [], (.one (by first | exact .mk rfl rfl | exact .nil rfl)), ⟨rfl, rfl⟩, (List.nil_sublist _), (by simp)⟩
      ·
        have hlb : b.length ≤ 40 := by have := of_decide_eq_false hg22; simp at this; omega
        refine g_run rfl rfl hg22 ?_
        refine r_move rfl rfl ?_
        refine g_run rfl rfl hg22 ?_
        first | (refine r_lenS rfl rfl TD.sl22 rfl ?_) | (refine r_lenNil rfl TD.sl22 rfl ?_)
        refine g_run rfl rfl hg22 ?_
        refine r_cmp rfl rfl rfl rfl ?_
        refine r_pickF rfl hg22 rfl rfl ?_
        refine awl_nil ?_
        refine x_then ?_
        refine awp_cond rfl (fun hc1 => ?_) (fun hc1 => ?_)
        ·
          refine awp_seq ?_
          refine awp_region ?_
          refine r_assign rfl rfl ?_
          refine awl_nil ?_
          refine x_then ?_
          refine awp_ret ?_
          refine x_thenR ?_
          exact ⟨(.inl rfl), _, [], (.one (by first | exact .mk rfl rfl | exact .nil rfl)), ⟨rfl, rfl⟩, (List.nil_sublist _), (by simp)⟩
        ·
          have hlc : c.length ≤ 40 := by have := of_decide_eq_false hc1; simp at this; omega
          have e1 := entries_len a b
          have e2 := entries_len b c
          have e3 := entries_len a c
          obtain ⟨l1, h11, h12⟩ := apply_entries a a b (fun _ => rfl)
          obtain ⟨l2, h21, h22⟩ := apply_entries l1 b c h12
          obtain ⟨l3, h31, h32⟩ := apply_entries a a c (fun _ => rfl)
          have n1 := apply_len h11
          have n2 := apply_len h21
          have m2 := clean_len l2
          have h4 : applyF a (entriesF a b ++ entriesF b c) = some l2 := (apply_app h11).trans h21
          have e23 : cleanF l3 = cleanF l2 := clean_ext (fun p => (h32 p).trans (h22 p).symm)
          refine awp_skip ?_
          refine x_then ?_
          refine awp_seq ?_
          rcases Decidable.em (entriesF b c = []) with hbc | hbc
          ·
            refine awp_region ?_
            refine r_move rfl rfl ?_
            refine r_move rfl rfl ?_
            refine r_call0 hq rfl rfl (.cons (.ev rfl rfl) (.cons (.ev rfl rfl) .nil)) (entries_ok a b (by omega) (by omega)) rfl TD.en24 rfl (fun r hr => ?_)
            obtain rfl := hr
            refine r_move rfl rfl ?_
            refine r_move rfl rfl ?_
            refine r_call0 hq rfl rfl (.cons (.ev rfl rfl) (.cons (.ev rfl rfl) .nil)) (entries_ok b c (by omega) (by omega)) rfl TD.en24 rfl (fun r hr => ?_)
            obtain rfl := hr
            rw [hbc]
            refine r_append0 rfl rfl rfl rfl TD.sl27 TD.sz112 rfl ?_
            refine r_assign rfl rfl ?_
            refine awl_nil ?_
            refine x_then ?_
            refine awp_seq ?_
            refine awp_region ?_
            refine r_move rfl rfl ?_
            refine awl_imp (imp_le 7 (x := .a (chgsA (entriesF a b ++ entriesF b c))) rfl (.of_eq (by rw [hbc]; simp [chgsA]))) ?_
            refine r_move rfl rfl ?_
            refine r_call0 hq rfl rfl (.cons (.ev rfl rfl) (.cons (.ev rfl rfl) .nil)) (apply_ok a (entriesF a b ++ entriesF b c) (by omega) (by simp; omega)) rfl TD.en28 rfl (fun r hr => ?_)
            obtain rfl : r = .tup [entsA (cleanF l2), .v (.int .i64 0)] := by
              rcases hr with ⟨l9, h1, h2⟩ | ⟨h1, h2⟩
              · rw [h4] at h1; cases h1; exact h2
              · rw [h4] at h1; cases h1
            refine r_move rfl rfl ?_
            refine r_extract rfl rfl rfl ?_
            refine r_extract rfl rfl rfl ?_
            refine r_assign rfl rfl ?_
            refine r_assign rfl rfl ?_
            refine awl_nil ?_
            refine x_then ?_
            refine awp_seq ?_
            refine awp_region ?_
            refine r_move rfl rfl ?_
            refine r_move rfl rfl ?_
            refine r_move rfl rfl ?_
            refine r_call0 hq rfl rfl (.cons (.ev rfl rfl) (.cons (.ev rfl rfl) .nil)) (entries_ok a c (by omega) (by omega)) rfl TD.en24 rfl (fun r hr => ?_)
            obtain rfl := hr
            refine r_call0 hq rfl rfl (.cons (.ev rfl rfl) (.cons (.ev rfl rfl) .nil)) (apply_ok a (entriesF a c) (by omega) (by omega)) rfl TD.en28 rfl (fun r hr => ?_)
            obtain rfl : r = .tup [entsA (cleanF l3), .v (.int .i64 0)] := by
              rcases hr with ⟨l9, h1, h2⟩ | ⟨h1, h2⟩
              · rw [h31] at h1; cases h1; exact h2
              · rw [h31] at h1; cases h1
            rw [e23]
            refine r_move rfl rfl ?_
            refine r_extract rfl rfl rfl ?_
            refine r_extract rfl rfl rfl ?_
            refine r_assign rfl rfl ?_
            refine r_assign rfl rfl ?_
            refine awl_nil ?_
            refine x_then ?_
            refine awp_seq ?_
            refine awp_region ?_
            refine r_move rfl rfl ?_
            refine r_cmp rfl rfl rfl rfl ?_
            refine r_move rfl rfl ?_
            refine g_run rfl rfl rfl ?_
            refine r_move rfl rfl ?_
            refine g_run rfl rfl rfl ?_
            refine r_cmp rfl rfl rfl rfl ?_
            refine r_pickT rfl rfl rfl rfl ?_
            refine r_move rfl rfl ?_
            refine g_run rfl rfl rfl ?_
            refine r_move rfl rfl ?_
            refine g_run rfl rfl rfl ?_
            refine r_move rfl rfl ?_
            refine g_run rfl rfl rfl ?_
            refine r_call0 hq rfl rfl (.cons (.ev rfl rfl) (.cons (.ev rfl rfl) .nil)) (sameE_ok (cleanF l2) (by omega)) rfl TD.en26 rfl (fun r hr => ?_)
            obtain rfl := hr
            refine r_pickT rfl rfl rfl rfl ?_
            refine r_move rfl rfl ?_
            refine g_run rfl rfl rfl ?_
            refine r_move rfl rfl ?_
            refine g_run rfl rfl rfl ?_
            refine r_move rfl rfl ?_
            refine g_run rfl rfl rfl ?_
            refine r_call0 hq rfl rfl (.cons (.ev rfl rfl) (.cons (.ev rfl rfl) .nil)) (entries_ok a a (by omega) (by omega)) rfl TD.en24 rfl (fun r hr => ?_)
            obtain rfl := hr
            rw [entries_nil (a := a) (b := a) (fun _ => rfl)]
            refine g_run rfl rfl rfl ?_
            first | (refine r_lenS rfl rfl TD.sl27 rfl ?_) | (refine r_lenNil rfl TD.sl27 rfl ?_)
            refine g_run rfl rfl rfl ?_
            refine r_cmp rfl rfl rfl rfl ?_
            refine r_pickT rfl rfl rfl rfl ?_
            refine r_assign rfl rfl ?_
            refine awl_nil ?_
            refine x_then ?_
            refine awp_ret ?_
            exact ⟨(.inl rfl), _, [], (.one (by first | exact .mk rfl rfl | exact .nil rfl)), ⟨rfl, rfl⟩, (List.nil_sublist _), (by simp)⟩
          ·
            refine awp_region ?_
            refine r_move rfl rfl ?_
            refine r_move rfl rfl ?_
            refine r_callO hq rfl rfl (.cons (.ev rfl rfl) (.cons (.ev rfl rfl) .nil)) (entriesG_ok a b (by omega) (by omega)) rfl TD.en24 (List.nil_sublist _) rfl (fun r nobjs hr => ?_)
            rcases hr with ⟨h0, rfl, rfl⟩ | ⟨gb, gc, ge, rfl, rfl⟩
            
            ·
              refine r_move rfl rfl ?_
              refine r_move rfl rfl ?_
              refine r_call0 hq rfl rfl (.cons (.ev rfl rfl) (.cons (.ev rfl rfl) .nil)) (entries_ok b c (by omega) (by omega)) rfl TD.en24 rfl (fun r hr => ?_)
              obtain rfl := hr
              refine r_append 29 rfl (by first | exact .own _ | exact .nil) rfl (by first | exact .sl _ | exact .own _ _ | exact .nil) TD.sl27 TD.sz112 (by decide) TD.by112 TD.zlen112 (by simp [chunks] <;> omega) (by simp [chunks] <;> omega) rfl ?_
              refine r_assign rfl rfl ?_
              refine awl_nil ?_
              refine x_then ?_
              refine awp_seq ?_
              refine awp_region ?_
              refine r_move rfl rfl ?_
              refine awl_imp (imp_le 7 (x := .a (chgsA (entriesF a b ++ entriesF b c))) rfl (.ownEq (by rw [List.map_append, h0]))) ?_
              refine r_move rfl rfl ?_
              refine r_call0 hq rfl rfl (.cons (.ev rfl rfl) (.cons (.ev rfl rfl) .nil)) (apply_ok a (entriesF a b ++ entriesF b c) (by omega) (by simp; omega)) rfl TD.en28 rfl (fun r hr => ?_)
              obtain rfl : r = .tup [entsA (cleanF l2), .v (.int .i64 0)] := by
                rcases hr with ⟨l9, h1, h2⟩ | ⟨h1, h2⟩
                · rw [h4] at h1; cases h1; exact h2
                · rw [h4] at h1; cases h1
              refine r_move rfl rfl ?_
              refine r_extract rfl rfl rfl ?_
              refine r_extract rfl rfl rfl ?_
              refine r_assign rfl rfl ?_
              refine r_assign rfl rfl ?_
              refine awl_nil ?_
              refine x_then ?_
              refine awp_seq ?_
              refine awp_region ?_
              refine r_move rfl rfl ?_
              refine r_move rfl rfl ?_
              refine r_move rfl rfl ?_
              refine r_call0 hq rfl rfl (.cons (.ev rfl rfl) (.cons (.ev rfl rfl) .nil)) (entries_ok a c (by omega) (by omega)) rfl TD.en24 rfl (fun r hr => ?_)
              obtain rfl := hr
              refine r_call0 hq rfl rfl (.cons (.ev rfl rfl) (.cons (.ev rfl rfl) .nil)) (apply_ok a (entriesF a c) (by omega) (by omega)) rfl TD.en28 rfl (fun r hr => ?_)
              obtain rfl : r = .tup [entsA (cleanF l3), .v (.int .i64 0)] := by
                rcases hr with ⟨l9, h1, h2⟩ | ⟨h1, h2⟩
                · rw [h31] at h1; cases h1; exact h2
                · rw [h31] at h1; cases h1
              rw [e23]
              refine r_move rfl rfl ?_
              refine r_extract rfl rfl rfl ?_
              refine r_extract rfl rfl rfl ?_
              refine r_assign rfl rfl ?_
              refine r_assign rfl rfl ?_
              refine awl_nil ?_
              refine x_then ?_
              refine awp_seq ?_
              refine awp_region ?_
              refine r_move rfl rfl ?_
              refine r_cmp rfl rfl rfl rfl ?_
              refine r_move rfl rfl ?_
              refine g_run rfl rfl rfl ?_
              refine r_move rfl rfl ?_
              refine g_run rfl rfl rfl ?_
              refine r_cmp rfl rfl rfl rfl ?_
              refine r_pickT rfl rfl rfl rfl ?_
              refine r_move rfl rfl ?_
              refine g_run rfl rfl rfl ?_
              refine r_move rfl rfl ?_
              refine g_run rfl rfl rfl ?_
              refine r_move rfl rfl ?_
              refine g_run rfl rfl rfl ?_
              refine r_call0 hq rfl rfl (.cons (.ev rfl rfl) (.cons (.ev rfl rfl) .nil)) (sameE_ok (cleanF l2) (by omega)) rfl TD.en26 rfl (fun r hr => ?_)
              obtain rfl := hr
              refine r_pickT rfl rfl rfl rfl ?_
              refine r_move rfl rfl ?_
              refine g_run rfl rfl rfl ?_
              refine r_move rfl rfl ?_
              refine g_run rfl rfl rfl ?_
              refine r_move rfl rfl ?_
              refine g_run rfl rfl rfl ?_
              refine r_call0 hq rfl rfl (.cons (.ev rfl rfl) (.cons (.ev rfl rfl) .nil)) (entries_ok a a (by omega) (by omega)) rfl TD.en24 rfl (fun r hr => ?_)
              obtain rfl := hr
              rw [entries_nil (a := a) (b := a) (fun _ => rfl)]
              refine g_run rfl rfl rfl ?_
              first | (refine r_lenS rfl rfl TD.sl27 rfl ?_) | (refine r_lenNil rfl TD.sl27 rfl ?_)
              refine g_run rfl rfl rfl ?_
              refine r_cmp rfl rfl rfl rfl ?_
              refine r_pickT rfl rfl rfl rfl ?_
              refine r_assign rfl rfl ?_
              refine awl_nil ?_
              refine x_then ?_
              refine awp_ret ?_
              exact ⟨(.inl rfl), _, [], (.one (by first | exact .mk rfl rfl | exact .nil rfl)), ⟨rfl, rfl⟩, (List.nil_sublist _), (by simp)⟩
            ·
              refine r_move rfl rfl ?_
              refine r_move rfl rfl ?_
              refine r_call0 hq rfl rfl (.cons (.ev rfl rfl) (.cons (.ev rfl rfl) .nil)) (entries_ok b c (by omega) (by omega)) rfl TD.en24 rfl (fun r hr => ?_)
              obtain rfl := hr
              refine r_appendBGx 0 rfl rfl rfl rfl (.sl _) (by simpa using hbc) TD.sl27 TD.sz112 TD.by112 TD.zlen112 (by simp; omega) (by simp; omega) rfl (fun gb2 gc2 ge2 => ?_)
              refine r_assign rfl rfl ?_
              refine awl_nil ?_
              refine x_then ?_
              refine awp_seq ?_
              refine awp_region ?_
              refine r_move rfl rfl ?_
              refine awl_imp (imp_commitB 0 7 rfl rfl rfl) ?_
              refine awl_imp (imp_le 7 (x := .a (chgsA (entriesF a b ++ entriesF b c))) rfl (.of_eq (by simp [chgsA]))) ?_
              refine r_move rfl rfl ?_
              refine r_call0 hq rfl rfl (.cons (.ev rfl rfl) (.cons (.ev rfl rfl) .nil)) (apply_ok a (entriesF a b ++ entriesF b c) (by omega) (by simp; omega)) rfl TD.en28 rfl (fun r hr => ?_)
              obtain rfl : r = .tup [entsA (cleanF l2), .v (.int .i64 0)] := by
                rcases hr with ⟨l9, h1, h2⟩ | ⟨h1, h2⟩
                · rw [h4] at h1; cases h1; exact h2
                · rw [h4] at h1; cases h1
              refine r_move rfl rfl ?_
              refine r_extract rfl rfl rfl ?_
              refine r_extract rfl rfl rfl ?_
              refine r_assign rfl rfl ?_
              refine r_assign rfl rfl ?_
              refine awl_nil ?_
              refine x_then ?_
              refine awp_seq ?_
              refine awp_region ?_
              refine r_move rfl rfl ?_
              refine r_move rfl rfl ?_
              refine r_move rfl rfl ?_
              refine r_call0 hq rfl rfl (.cons (.ev rfl rfl) (.cons (.ev rfl rfl) .nil)) (entries_ok a c (by omega) (by omega)) rfl TD.en24 rfl (fun r hr => ?_)
              obtain rfl := hr
              refine r_call0 hq rfl rfl (.cons (.ev rfl rfl) (.cons (.ev rfl rfl) .nil)) (apply_ok a (entriesF a c) (by omega) (by omega)) rfl TD.en28 rfl (fun r hr => ?_)
              obtain rfl : r = .tup [entsA (cleanF l3), .v (.int .i64 0)] := by
                rcases hr with ⟨l9, h1, h2⟩ | ⟨h1, h2⟩
                · rw [h31] at h1; cases h1; exact h2
                · rw [h31] at h1; cases h1
              rw [e23]
              refine r_move rfl rfl ?_
              refine r_extract rfl rfl rfl ?_
              refine r_extract rfl rfl rfl ?_
              refine r_assign rfl rfl ?_
              refine r_assign rfl rfl ?_
              refine awl_nil ?_
              refine x_then ?_
              refine awp_seq ?_
              refine awp_region ?_
              refine r_move rfl rfl ?_
              refine r_cmp rfl rfl rfl rfl ?_
              refine r_move rfl rfl ?_
              refine g_run rfl rfl rfl ?_
              refine r_move rfl rfl ?_
              refine g_run rfl rfl rfl ?_
              refine r_cmp rfl rfl rfl rfl ?_
              refine r_pickT rfl rfl rfl rfl ?_
              refine r_move rfl rfl ?_
              refine g_run rfl rfl rfl ?_
              refine r_move rfl rfl ?_
              refine g_run rfl rfl rfl ?_
              refine r_move rfl rfl ?_
              refine g_run rfl rfl rfl ?_
              refine r_call0 hq rfl rfl (.cons (.ev rfl rfl) (.cons (.ev rfl rfl) .nil)) (sameE_ok (cleanF l2) (by omega)) rfl TD.en26 rfl (fun r hr => ?_)
              obtain rfl := hr
              refine r_pickT rfl rfl rfl rfl ?_
              refine r_move rfl rfl ?_
              refine g_run rfl rfl rfl ?_
              refine r_move rfl rfl ?_
              refine g_run rfl rfl rfl ?_
              refine r_move rfl rfl ?_
              refine g_run rfl rfl rfl ?_
              refine r_call0 hq rfl rfl (.cons (.ev rfl rfl) (.cons (.ev rfl rfl) .nil)) (entries_ok a a (by omega) (by omega)) rfl TD.en24 rfl (fun r hr => ?_)
              obtain rfl := hr
              rw [entries_nil (a := a) (b := a) (fun _ => rfl)]
              refine g_run rfl rfl rfl ?_
              first | (refine r_lenS rfl rfl TD.sl27 rfl ?_) | (refine r_lenNil rfl TD.sl27 rfl ?_)
              refine g_run rfl rfl rfl ?_
              refine r_cmp rfl rfl rfl rfl ?_
              refine r_pickT rfl rfl rfl rfl ?_
              refine r_assign rfl rfl ?_
              refine awl_nil ?_
              refine x_then ?_
              refine awp_ret ?_
              exact ⟨(.inl rfl), _, [], (.one (by first | exact .mk rfl rfl | exact .nil rfl)), ⟨rfl, rfl⟩, (List.nil_sublist _), (by simp)⟩

end Go.Proofs.Ytaglbmgpdoophaa.A

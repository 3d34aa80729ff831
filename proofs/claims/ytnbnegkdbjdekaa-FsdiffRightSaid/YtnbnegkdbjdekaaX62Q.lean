/- Layer 62: the statement FsdiffRight's walk. -/
import Derived.Test.YtnbnegkdbjdekaaProg
import Derived.KernelRfl
import Derived.Test.YtnbnegkdbjdekaaX62J
namespace Go.Proofs.Ytnbnegkdbjdekaa.A
open Go Go.RowKit
set_option linter.unusedVariables false
set_option linter.unusedSimpArgs false
set_option maxRecDepth 100000

theorem TF.en17 : entersT Try.prog 17 := enters_of Try.func17 (by kernel_rfl) (by kernel_rfl)
theorem TF.en20 : entersT Try.prog 20 := enters_of Try.func20 (by kernel_rfl) (by kernel_rfl)
theorem TF.un4 : Try.prog.underlying 4 = some .bool := by kernel_rfl

set_option maxHeartbeats 1000000 in
theorem right_law (d : List FC) (a b : List File) (hdd : ∀ c ∈ d, c.data.length ≤ 140737488351232) : AC Try.prog 5 [fcsA d, files a, files b] [] (fun r n => n = [] ∧ r = boolA true) := by
  refine ac_of_awp (rs := [6]) (nt := 36) Try.func5 rfl rfl rfl rfl (fun w0 C0 hq => ?_)
  refine awp_seq ?_
  refine awp_region ?_
  refine r_assign rfl rfl ?_
  refine awl_nil ?_
  refine x_then ?_
  refine awp_seq ?_
  refine awp_seq ?_
  refine awp_region ?_
  refine r_call0 hq rfl rfl .nil (awake_ok) rfl TF.en9 rfl (fun r hr => ?_)
  obtain rfl := hr
  refine r_not rfl rfl ?_
  refine awl_nil ?_
  refine x_then ?_
  refine awp_cond rfl (fun hc0 => ?_) (fun hc0 => ?_)
  ·
    exfalso; exact absurd hc0 (by decide)
  ·
    refine awp_skip ?_
    refine x_then ?_
    refine awp_seq ?_
    refine awp_seq ?_
    refine awp_region ?_
    refine r_move rfl rfl ?_
    refine r_call0 hq rfl rfl (.cons (.ev rfl rfl) .nil) (small_ok a) rfl TF.en10 rfl (fun r hr => ?_)
    rcases hr with rfl | ⟨rfl, h12a, hsa⟩
    
    ·
      refine r_cmp rfl rfl rfl rfl ?_
      refine r_move rfl rfl ?_
      refine g_skip rfl rfl rfl rfl ?_
      refine g_skip rfl rfl rfl rfl ?_
      refine g_skip rfl rfl rfl rfl ?_
      refine r_pickT rfl rfl rfl rfl ?_
      refine r_move rfl rfl ?_
      refine g_skip rfl rfl rfl rfl ?_
      refine g_skip rfl rfl rfl rfl ?_
      refine g_skip rfl rfl rfl rfl ?_
      refine r_pickT rfl rfl rfl rfl ?_
      refine awl_nil ?_
      refine x_then ?_
      refine awp_condT rfl ?_
      refine awp_seq ?_
      refine awp_region ?_
      refine r_assign rfl rfl ?_
      refine awl_nil ?_
      refine x_then ?_
      refine awp_ret ?_
      refine x_thenR ?_
      exact ⟨(.inl rfl), _, [], (.one (by first | exact .mk rfl rfl | exact .nil rfl)), ⟨rfl, rfl⟩, (List.nil_sublist _), (by simp)⟩
    ·
      have hla : a.length ≤ 1000 := by omega
      have hna : ∀ f ∈ a, f.name.size ≤ 1000000 := fun f hf => by have := (hsa f hf).1; omega
      have hda : ∀ f ∈ a, f.data.length ≤ 1000000 := fun f hf => by have := (hsa f hf).2; omega
      refine r_cmp rfl rfl rfl rfl ?_
      refine r_move rfl rfl ?_
      refine g_run rfl rfl rfl ?_
      refine r_move rfl rfl ?_
      refine g_run rfl rfl rfl ?_
      refine r_call0 hq rfl rfl (.cons (.ev rfl rfl) .nil) (small_ok b) rfl TF.en10 rfl (fun r hr => ?_)
      rcases hr with rfl | ⟨rfl, h12b, hsb⟩
      
      ·
        refine g_run rfl rfl rfl ?_
        refine r_cmp rfl rfl rfl rfl ?_
        refine r_pickF rfl rfl rfl rfl ?_
        refine r_move rfl rfl ?_
        refine g_skip rfl rfl rfl rfl ?_
        refine g_skip rfl rfl rfl rfl ?_
        refine g_skip rfl rfl rfl rfl ?_
        refine r_pickT rfl rfl rfl rfl ?_
        refine awl_nil ?_
        refine x_then ?_
        refine awp_condT rfl ?_
        refine awp_seq ?_
        refine awp_region ?_
        refine r_assign rfl rfl ?_
        refine awl_nil ?_
        refine x_then ?_
        refine awp_ret ?_
        refine x_thenR ?_
        exact ⟨(.inl rfl), _, [], (.one (by first | exact .mk rfl rfl | exact .nil rfl)), ⟨rfl, rfl⟩, (List.nil_sublist _), (by simp)⟩
      ·
        have hlb : b.length ≤ 1000 := by omega
        have hnb : ∀ f ∈ b, f.name.size ≤ 1000000 := fun f hf => by have := (hsb f hf).1; omega
        have hdb : ∀ f ∈ b, f.data.length ≤ 1000000 := fun f hf => by have := (hsb f hf).2; omega
        refine g_run rfl rfl rfl ?_
        refine r_cmp rfl rfl rfl rfl ?_
        refine r_pickF rfl rfl rfl rfl ?_
        refine r_move rfl rfl ?_
        refine g_run rfl rfl rfl ?_
        refine r_move rfl rfl ?_
        refine g_run rfl rfl rfl ?_
        first | (refine r_lenS rfl rfl TF.sl30 rfl ?_) | (refine r_lenNil rfl TF.sl30 rfl ?_) | (refine r_lenV rfl TF.sl30 rfl ?_)
        refine g_run rfl rfl rfl ?_
        refine r_cmp rfl rfl rfl rfl ?_
        refine r_pickF rfl rfl rfl rfl ?_
        refine awl_nil ?_
        refine x_then ?_
        refine awp_cond rfl (fun hc1 => ?_) (fun hc1 => ?_)
        ·
          refine awp_seq ?_
          refine awp_region ?_
          refine r_assign rfl rfl ?_
          refine awl_nil ?_
          refine x_then ?_
          refine awp_ret ?_
          refine x_thenR ?_
          exact ⟨(.inl rfl), _, [], (.one (by first | exact .mk rfl rfl | exact .nil rfl)), ⟨rfl, rfl⟩, (List.nil_sublist _), (by simp)⟩
        ·
          have hd12 : d.length ≤ 12 := by have := of_decide_eq_false hc1; simp at this; omega
          refine awp_skip ?_
          refine x_then ?_
          refine awp_seq ?_
          refine awp_region ?_
          refine r_move rfl rfl ?_
          refine r_call0 hq rfl rfl (.cons (.ev rfl rfl) .nil) (changes_ok d (by omega) hdd) rfl TF.en17 rfl (fun r hr => ?_)
          obtain rfl := hr
          refine r_call0 hq rfl rfl (.cons (.ev rfl rfl) .nil) (right_ok d (by omega)) rfl TF.en19 rfl (fun r hr => ?_)
          obtain rfl := hr
          refine r_move rfl rfl ?_
          refine r_call0 hq rfl rfl (.cons (.ev rfl rfl) .nil) (rright_ok d (by omega)) rfl TF.en20 rfl (fun r hr => ?_)
          obtain rfl := hr
          refine r_beq rfl rfl TF.un4 rfl ?_
          refine r_move rfl rfl ?_
          refine g_run rfl rfl (by simp) ?_
          refine r_move rfl rfl ?_
          refine g_run rfl rfl (by simp) ?_
          refine r_call0 hq rfl rfl (.cons (.ev rfl rfl) .nil) (files_ok a (by omega) hda) rfl TF.en11 rfl (fun r hr => ?_)
          obtain rfl := hr
          refine g_run rfl rfl (by simp) ?_
          refine r_move rfl rfl ?_
          refine g_run rfl rfl (by simp) ?_
          refine r_call0 hq rfl rfl (.cons (.ev rfl rfl) .nil) (files_ok b (by omega) hdb) rfl TF.en11 rfl (fun r hr => ?_)
          obtain rfl := hr
          have hol := of_len a b
          refine g_run rfl rfl (by simp) ?_
          refine r_call0 hq rfl rfl (.cons (.ev rfl rfl) (.cons (.ev rfl rfl) .nil)) (of_ok a b hla hlb hna hnb hda hdb) rfl TF.en13 rfl (fun r hr => ?_)
          obtain rfl := hr
          refine g_run rfl rfl (by simp) ?_
          refine r_call0 hq rfl rfl (.cons (.ev rfl rfl) .nil) (right_ok (OfF a b) (by omega)) rfl TF.en19 rfl (fun r hr => ?_)
          obtain rfl := hr
          rw [right_of]
          refine r_pickT rfl (by simp) rfl rfl ?_
          refine r_assign rfl rfl ?_
          refine awl_nil ?_
          refine x_then ?_
          refine awp_ret ?_
          exact ⟨(.inl rfl), _, [], (.one (by first | exact .mk rfl rfl | exact .nil rfl)), ⟨rfl, rfl⟩, (List.nil_sublist _), (by simp)⟩

end Go.Proofs.Ytnbnegkdbjdekaa.A

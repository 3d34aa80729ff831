/- Layer 62: over third files; the document's Right. -/
import Derived.Test.YtnbnegkdbjdekaaProg
import Derived.KernelRfl
import Derived.Test.YtnbnegkdbjdekaaX62I
import Derived.Test.YtnbnegkdbjdekaaX62W
namespace Go.Proofs.Ytnbnegkdbjdekaa.A
open Go Go.RowKit
set_option linter.unusedVariables false
set_option linter.unusedSimpArgs false
set_option maxRecDepth 100000

theorem TF.en22 : entersT Try.prog 22 := enters_of Try.func22 (by kernel_rfl) (by kernel_rfl)
theorem TF.en37 : entersT Try.prog 37 := enters_of Try.func37 (by kernel_rfl) (by kernel_rfl)

theorem apply_way (a b c : List File) : ∃ m, applyM (firstM a) (OfF a b ++ OfF b c) = (0, m) ∧ filesM m = cleanS c := by
  obtain ⟨m1, e1, n1, g1⟩ := apply_of a b (tells_first a).nd (tells_first a).get
  obtain ⟨m2, e2, n2, g2⟩ := apply_of b c n1 g1
  exact ⟨m2, (applyM_app e1).trans e2, files_clean n2 g2⟩
theorem applyWay_ok (a b c : List File) (hla : a.length ≤ 1000) (hlb : b.length ≤ 1000) (hlc : c.length ≤ 1000) (hna : ∀ f ∈ a, f.name.size ≤ 1000000) (hnb : ∀ f ∈ b, f.name.size ≤ 1000000) (hnc : ∀ f ∈ c, f.name.size ≤ 1000000) (hda : ∀ f ∈ a, f.data.length ≤ 1000000) (hdb : ∀ f ∈ b, f.data.length ≤ 1000000) (hdc : ∀ f ∈ c, f.data.length ≤ 1000000) :
    AC Try.prog 16 [files a, fcsA (OfF a b ++ OfF b c)] [] (fun r n => n = [] ∧ r = .tup [files (cleanS c), .v (.int .i64 0)]) := by
  have h1 := of_len a b
  have h2 := of_len b c
  refine (apply_ok a (OfF a b ++ OfF b c) hla (by simp; omega) hna hda (fun x hx => ?_)).mono fun r n h => ?_
  · rcases List.mem_append.1 hx with hx | hx
    · exact of_bound hna hnb hdb x hx
    · exact of_bound hnb hnc hdc x hx
  · obtain ⟨m, k1, k2⟩ := apply_way a b c
    obtain ⟨rfl, ⟨m', j1, j2, rfl⟩ | ⟨e, m', j1, j2, rfl⟩⟩ := h
    · rw [k1] at j1; cases j1; exact ⟨rfl, by rw [k2]⟩
    · rw [k1] at j1; cases j1; exact absurd rfl j2

set_option maxHeartbeats 1000000 in
theorem way_law (a b c : List File) : AC Try.prog 8 [files a, files b, files c] [] (fun r n => n = [] ∧ r = boolA true) := by
  refine ac_of_awp (rs := [6]) (nt := 66) Try.func8 rfl rfl rfl rfl (fun w0 C0 hq => ?_)
  refine awp_seq ?_
  refine awp_region ?_
  refine r_assign rfl rfl ?_
  refine awl_nil ?_
  refine x_then ?_
  refine awp_seq ?_
  refine awp_seq ?_
  refine awp_region ?_
  refine r_call0 hq rfl rfl .nil (awake_ok) rfl TF.en9 rfl (fun r hr => ?_)
  obtain rfl := hr
  refine r_not rfl rfl ?_
  refine awl_nil ?_
  refine x_then ?_
  refine awp_cond rfl (fun hc0 => ?_) (fun hc0 => ?_)
  ·
    exfalso; exact absurd hc0 (by decide)
  ·
    refine awp_skip ?_
    refine x_then ?_
    refine awp_seq ?_
    refine awp_seq ?_
    refine awp_region ?_
    refine r_move rfl rfl ?_
    refine r_call0 hq rfl rfl (.cons (.ev rfl rfl) .nil) (small_ok a) rfl TF.en10 rfl (fun r hr => ?_)
    rcases hr with rfl | ⟨rfl, h12a, hsa⟩
    
    ·
      refine r_cmp rfl rfl rfl rfl ?_
      refine r_move rfl rfl ?_
      refine g_skip rfl rfl rfl rfl ?_
      refine g_skip rfl rfl rfl rfl ?_
      refine g_skip rfl rfl rfl rfl ?_
      refine r_pickT rfl rfl rfl rfl ?_
      refine r_move rfl rfl ?_
      refine g_skip rfl rfl rfl rfl ?_
      refine g_skip rfl rfl rfl rfl ?_
      refine g_skip rfl rfl rfl rfl ?_
      refine r_pickT rfl rfl rfl rfl ?_
      refine awl_nil ?_
      refine x_then ?_
      refine awp_condT rfl ?_
      refine awp_seq ?_
      refine awp_region ?_
      refine r_assign rfl rfl ?_
      refine awl_nil ?_
      refine x_then ?_
      refine awp_ret ?_
      refine x_thenR ?_
      exact ⟨(.inl rfl), _, [], (.one (by first | exact .mk rfl rfl | exact .nil rfl)), ⟨rfl, rfl⟩, (List.nil_sublist _), (by simp)⟩
    ·
      have hla : a.length ≤ 1000 := by omega
      have hna : ∀ f ∈ a, f.name.size ≤ 1000000 := fun f hf => by have := (hsa f hf).1; omega
      have hda : ∀ f ∈ a, f.data.length ≤ 1000000 := fun f hf => by have := (hsa f hf).2; omega
      refine r_cmp rfl rfl rfl rfl ?_
      refine r_move rfl rfl ?_
      refine g_run rfl rfl rfl ?_
      refine r_move rfl rfl ?_
      refine g_run rfl rfl rfl ?_
      refine r_call0 hq rfl rfl (.cons (.ev rfl rfl) .nil) (small_ok b) rfl TF.en10 rfl (fun r hr => ?_)
      rcases hr with rfl | ⟨rfl, h12b, hsb⟩
      
      ·
        refine g_run rfl rfl rfl ?_
        refine r_cmp rfl rfl rfl rfl ?_
        refine r_pickF rfl rfl rfl rfl ?_
        refine r_move rfl rfl ?_
        refine g_skip rfl rfl rfl rfl ?_
        refine g_skip rfl rfl rfl rfl ?_
        refine g_skip rfl rfl rfl rfl ?_
        refine r_pickT rfl rfl rfl rfl ?_
        refine awl_nil ?_
        refine x_then ?_
        refine awp_condT rfl ?_
        refine awp_seq ?_
        refine awp_region ?_
        refine r_assign rfl rfl ?_
        refine awl_nil ?_
        refine x_then ?_
        refine awp_ret ?_
        refine x_thenR ?_
        exact ⟨(.inl rfl), _, [], (.one (by first | exact .mk rfl rfl | exact .nil rfl)), ⟨rfl, rfl⟩, (List.nil_sublist _), (by simp)⟩
      ·
        have hlb : b.length ≤ 1000 := by omega
        have hnb : ∀ f ∈ b, f.name.size ≤ 1000000 := fun f hf => by have := (hsb f hf).1; omega
        have hdb : ∀ f ∈ b, f.data.length ≤ 1000000 := fun f hf => by have := (hsb f hf).2; omega
        refine g_run rfl rfl rfl ?_
        refine r_cmp rfl rfl rfl rfl ?_
        refine r_pickF rfl rfl rfl rfl ?_
        refine r_move rfl rfl ?_
        refine g_run rfl rfl rfl ?_
        refine r_move rfl rfl ?_
        refine g_run rfl rfl rfl ?_
        refine r_call0 hq rfl rfl (.cons (.ev rfl rfl) .nil) (small_ok c) rfl TF.en10 rfl (fun r hr => ?_)
        rcases hr with rfl | ⟨rfl, h12c, hsc⟩
        
        ·
          refine g_run rfl rfl rfl ?_
          refine r_cmp rfl rfl rfl rfl ?_
          refine r_pickF rfl rfl rfl rfl ?_
          refine awl_nil ?_
          refine x_then ?_
          refine awp_cond rfl (fun hc1 => ?_) (fun hc1 => ?_)
          ·
            refine awp_seq ?_
            refine awp_region ?_
            refine r_assign rfl rfl ?_
            refine awl_nil ?_
            refine x_then ?_
            refine awp_ret ?_
            refine x_thenR ?_
            exact ⟨(.inl rfl), _, [], (.one (by first | exact .mk rfl rfl | exact .nil rfl)), ⟨rfl, rfl⟩, (List.nil_sublist _), (by simp)⟩
          ·
            exfalso; exact absurd hc1 (by decide)
        ·
          have hlc : c.length ≤ 1000 := by omega
          have hnc : ∀ f ∈ c, f.name.size ≤ 1000000 := fun f hf => by have := (hsc f hf).1; omega
          have hdc : ∀ f ∈ c, f.data.length ≤ 1000000 := fun f hf => by have := (hsc f hf).2; omega
          refine g_run rfl rfl rfl ?_
          refine r_cmp rfl rfl rfl rfl ?_
          refine r_pickF rfl rfl rfl rfl ?_
          refine awl_nil ?_
          refine x_then ?_
          refine awp_cond rfl (fun hc1 => ?_) (fun hc1 => ?_)
          ·
            exfalso; exact absurd hc1 (by decide)
          ·
            refine awp_skip ?_
            refine x_then ?_
            refine awp_seq ?_
            refine awp_region ?_
            refine r_move rfl rfl ?_
            refine r_call0 hq rfl rfl (.cons (.ev rfl rfl) .nil) (files_ok a (by omega) hda) rfl TF.en11 rfl (fun r hr => ?_)
            obtain rfl := hr
            refine r_move rfl rfl ?_
            refine r_call0 hq rfl rfl (.cons (.ev rfl rfl) .nil) (files_ok b (by omega) hdb) rfl TF.en11 rfl (fun r hr => ?_)
            obtain rfl := hr
            refine r_move rfl rfl ?_
            refine r_call0 hq rfl rfl (.cons (.ev rfl rfl) .nil) (files_ok c (by omega) hdc) rfl TF.en11 rfl (fun r hr => ?_)
            obtain rfl := hr
            have e1 := of_len a b
            have e2 := of_len b c
            have hcl := clean_len c
            refine r_assign rfl rfl ?_
            refine r_assign rfl rfl ?_
            refine r_assign rfl rfl ?_
            refine awl_nil ?_
            refine x_then ?_
            refine awp_seq ?_
            rcases Classical.em (OfF b c = []) with hbc | hbc
            ·
              refine awp_region ?_
              refine r_move rfl rfl ?_
              refine r_move rfl rfl ?_
              refine r_move rfl rfl ?_
              refine r_call0 hq rfl rfl (.cons (.ev rfl rfl) (.cons (.ev rfl rfl) .nil)) (of_ok a b hla hlb hna hnb hda hdb) rfl TF.en13 rfl (fun r hr => ?_)
              obtain rfl := hr
              refine r_move rfl rfl ?_
              refine r_move rfl rfl ?_
              refine r_call0 hq rfl rfl (.cons (.ev rfl rfl) (.cons (.ev rfl rfl) .nil)) (of_ok b c hlb hlc hnb hnc hdb hdc) rfl TF.en13 rfl (fun r hr => ?_)
              obtain rfl := hr
              rw [hbc]
              refine r_append0 rfl rfl rfl rfl TF.sl28 TF.sz50 rfl ?_
              refine awl_imp (imp_le 43 (x := .a (fcsA (OfF a b ++ OfF b c))) rfl (.of_eq (by rw [hbc]; simp [fcsA]))) ?_
              refine r_call0 hq rfl rfl (.cons (.ev rfl rfl) (.cons (.ev rfl rfl) .nil)) (applyWay_ok a b c hla hlb hlc hna hnb hnc hda hdb hdc) rfl TF.en16 rfl (fun r hr => ?_)
              obtain rfl := hr
              refine r_move rfl rfl ?_
              refine r_extract rfl rfl rfl ?_
              refine r_extract rfl rfl rfl ?_
              refine r_assign rfl rfl ?_
              refine r_assign rfl rfl ?_
              refine awl_nil ?_
              refine x_then ?_
              refine awp_seq ?_
              refine awp_region ?_
              refine r_move rfl rfl ?_
              refine r_move rfl rfl ?_
              refine r_move rfl rfl ?_
              refine r_call0 hq rfl rfl (.cons (.ev rfl rfl) (.cons (.ev rfl rfl) .nil)) (of_ok a c hla hlc hna hnc hda hdc) rfl TF.en13 rfl (fun r hr => ?_)
              obtain rfl := hr
              refine r_call0 hq rfl rfl (.cons (.ev rfl rfl) (.cons (.ev rfl rfl) .nil)) (applyOf_ok a c hla hlc hna hnc hda hdc) rfl TF.en16 rfl (fun r hr => ?_)
              obtain rfl := hr
              refine r_move rfl rfl ?_
              refine r_extract rfl rfl rfl ?_
              refine r_extract rfl rfl rfl ?_
              refine r_assign rfl rfl ?_
              refine r_assign rfl rfl ?_
              refine awl_nil ?_
              refine x_then ?_
              refine awp_seq ?_
              refine awp_region ?_
              refine r_move rfl rfl ?_
              refine r_cmp rfl rfl rfl rfl ?_
              refine r_move rfl rfl ?_
              refine g_run rfl rfl rfl ?_
              refine r_move rfl rfl ?_
              refine g_run rfl rfl rfl ?_
              refine r_cmp rfl rfl rfl rfl ?_
              refine r_pickT rfl rfl rfl rfl ?_
              refine r_move rfl rfl ?_
              refine g_run rfl rfl rfl ?_
              refine r_move rfl rfl ?_
              refine g_run rfl rfl rfl ?_
              refine r_move rfl rfl ?_
              refine g_run rfl rfl rfl ?_
              refine r_call0 hq rfl rfl (.cons (.ev rfl rfl) (.cons (.ev rfl rfl) .nil)) (fsame_ok (cleanS c) (by omega)) rfl TF.en22 rfl (fun r hr => ?_)
              obtain rfl := hr
              refine r_pickT rfl rfl rfl rfl ?_
              refine r_assign rfl rfl ?_
              refine awl_nil ?_
              refine x_then ?_
              refine awp_ret ?_
              exact ⟨(.inl rfl), _, [], (.one (by first | exact .mk rfl rfl | exact .nil rfl)), ⟨rfl, rfl⟩, (List.nil_sublist _), (by simp)⟩
            ·
              refine awp_region ?_
              refine r_move rfl rfl ?_
              refine r_move rfl rfl ?_
              refine r_move rfl rfl ?_
              refine r_callO hq rfl rfl (.cons (.ev rfl rfl) (.cons (.ev rfl rfl) .nil)) (ofG_ok a b hla hlb hna hnb hda hdb) rfl TF.en13 (List.nil_sublist _) rfl (fun r nobjs hr => ?_)
              rcases hr with ⟨h0, rfl, rfl⟩ | ⟨gb, gc, ge, rfl, rfl⟩
              
              ·
                refine r_move rfl rfl ?_
                refine r_move rfl rfl ?_
                refine r_call0 hq rfl rfl (.cons (.ev rfl rfl) (.cons (.ev rfl rfl) .nil)) (of_ok b c hlb hlc hnb hnc hdb hdc) rfl TF.en13 rfl (fun r hr => ?_)
                obtain rfl := hr
                refine r_append 39 rfl (by first | exact .own _ | exact .nil) rfl (by first | exact .sl _ | exact .own _ _ | exact .nil) TF.sl28 TF.sz50 (by decide) TF.by50 TF.zlen50 (by simp [chunks] <;> omega) (by simp [chunks] <;> omega) rfl ?_
                refine awl_imp (imp_le 43 (x := .a (fcsA (OfF a b ++ OfF b c))) rfl (.ownEq (by rw [List.map_append, h0]))) ?_
                refine r_call0 hq rfl rfl (.cons (.ev rfl rfl) (.cons (.ev rfl rfl) .nil)) (applyWay_ok a b c hla hlb hlc hna hnb hnc hda hdb hdc) rfl TF.en16 rfl (fun r hr => ?_)
                obtain rfl := hr
                refine r_move rfl rfl ?_
                refine r_extract rfl rfl rfl ?_
                refine r_extract rfl rfl rfl ?_
                refine r_assign rfl rfl ?_
                refine r_assign rfl rfl ?_
                refine awl_nil ?_
                refine x_then ?_
                refine awp_seq ?_
                refine awp_region ?_
                refine r_move rfl rfl ?_
                refine r_move rfl rfl ?_
                refine r_move rfl rfl ?_
                refine r_call0 hq rfl rfl (.cons (.ev rfl rfl) (.cons (.ev rfl rfl) .nil)) (of_ok a c hla hlc hna hnc hda hdc) rfl TF.en13 rfl (fun r hr => ?_)
                obtain rfl := hr
                refine r_call0 hq rfl rfl (.cons (.ev rfl rfl) (.cons (.ev rfl rfl) .nil)) (applyOf_ok a c hla hlc hna hnc hda hdc) rfl TF.en16 rfl (fun r hr => ?_)
                obtain rfl := hr
                refine r_move rfl rfl ?_
                refine r_extract rfl rfl rfl ?_
                refine r_extract rfl rfl rfl ?_
                refine r_assign rfl rfl ?_
                refine r_assign rfl rfl ?_
                refine awl_nil ?_
                refine x_then ?_
                refine awp_seq ?_
                refine awp_region ?_
                refine r_move rfl rfl ?_
                refine r_cmp rfl rfl rfl rfl ?_
                refine r_move rfl rfl ?_
                refine g_run rfl rfl rfl ?_
                refine r_move rfl rfl ?_
                refine g_run rfl rfl rfl ?_
                refine r_cmp rfl rfl rfl rfl ?_
                refine r_pickT rfl rfl rfl rfl ?_
                refine r_move rfl rfl ?_
                refine g_run rfl rfl rfl ?_
                refine r_move rfl rfl ?_
                refine g_run rfl rfl rfl ?_
                refine r_move rfl rfl ?_
                refine g_run rfl rfl rfl ?_
                refine r_call0 hq rfl rfl (.cons (.ev rfl rfl) (.cons (.ev rfl rfl) .nil)) (fsame_ok (cleanS c) (by omega)) rfl TF.en22 rfl (fun r hr => ?_)
                obtain rfl := hr
                refine r_pickT rfl rfl rfl rfl ?_
                refine r_assign rfl rfl ?_
                refine awl_nil ?_
                refine x_then ?_
                refine awp_ret ?_
                exact ⟨(.inl rfl), _, [], (.one (by first | exact .mk rfl rfl | exact .nil rfl)), ⟨rfl, rfl⟩, (List.nil_sublist _), (by simp)⟩
              ·
                refine r_move rfl rfl ?_
                refine r_move rfl rfl ?_
                refine r_call0 hq rfl rfl (.cons (.ev rfl rfl) (.cons (.ev rfl rfl) .nil)) (of_ok b c hlb hlc hnb hnc hdb hdc) rfl TF.en13 rfl (fun r hr => ?_)
                obtain rfl := hr
                refine r_appendBGx 0 rfl rfl rfl rfl (.sl _) (by simpa using hbc) TF.sl28 TF.sz50 TF.by50 TF.zlen50 (by simp; omega) (by simp; omega) rfl (fun gb2 gc2 ge2 => ?_)
                refine awl_imp (imp_commitB 0 43 rfl rfl rfl) ?_
                refine awl_imp (imp_le 43 (x := .a (fcsA (OfF a b ++ OfF b c))) rfl (.of_eq (by simp [fcsA]))) ?_
                refine r_call0 hq rfl rfl (.cons (.ev rfl rfl) (.cons (.ev rfl rfl) .nil)) (applyWay_ok a b c hla hlb hlc hna hnb hnc hda hdb hdc) rfl TF.en16 rfl (fun r hr => ?_)
                obtain rfl := hr
                refine r_move rfl rfl ?_
                refine r_extract rfl rfl rfl ?_
                refine r_extract rfl rfl rfl ?_
                refine r_assign rfl rfl ?_
                refine r_assign rfl rfl ?_
                refine awl_nil ?_
                refine x_then ?_
                refine awp_seq ?_
                refine awp_region ?_
                refine r_move rfl rfl ?_
                refine r_move rfl rfl ?_
                refine r_move rfl rfl ?_
                refine r_call0 hq rfl rfl (.cons (.ev rfl rfl) (.cons (.ev rfl rfl) .nil)) (of_ok a c hla hlc hna hnc hda hdc) rfl TF.en13 rfl (fun r hr => ?_)
                obtain rfl := hr
                refine r_call0 hq rfl rfl (.cons (.ev rfl rfl) (.cons (.ev rfl rfl) .nil)) (applyOf_ok a c hla hlc hna hnc hda hdc) rfl TF.en16 rfl (fun r hr => ?_)
                obtain rfl := hr
                refine r_move rfl rfl ?_
                refine r_extract rfl rfl rfl ?_
                refine r_extract rfl rfl rfl ?_
                refine r_assign rfl rfl ?_
                refine r_assign rfl rfl ?_
                refine awl_nil ?_
                refine x_then ?_
                refine awp_seq ?_
                refine awp_region ?_
                refine r_move rfl rfl ?_
                refine r_cmp rfl rfl rfl rfl ?_
                refine r_move rfl rfl ?_
                refine g_run rfl rfl rfl ?_
                refine r_move rfl rfl ?_
                refine g_run rfl rfl rfl ?_
                refine r_cmp rfl rfl rfl rfl ?_
                refine r_pickT rfl rfl rfl rfl ?_
                refine r_move rfl rfl ?_
                refine g_run rfl rfl rfl ?_
                refine r_move rfl rfl ?_
                refine g_run rfl rfl rfl ?_
                refine r_move rfl rfl ?_
                refine g_run rfl rfl rfl ?_
                refine r_call0 hq rfl rfl (.cons (.ev rfl rfl) (.cons (.ev rfl rfl) .nil)) (fsame_ok (cleanS c) (by omega)) rfl TF.en22 rfl (fun r hr => ?_)
                obtain rfl := hr
                refine r_pickT rfl rfl rfl rfl ?_
                refine r_assign rfl rfl ?_
                refine awl_nil ?_
                refine x_then ?_
                refine awp_ret ?_
                exact ⟨(.inl rfl), _, [], (.one (by first | exact .mk rfl rfl | exact .nil rfl)), ⟨rfl, rfl⟩, (List.nil_sublist _), (by simp)⟩

theorem rrank_ok (k : Int) : AC Try.prog 37 [.v (.int .i64 k)] [] (fun r n => n = [] ∧ r = .v (.int .i64 (rankR k))) := by
  refine ac_of_awp (rs := [2]) (nt := 12) Try.func37 rfl rfl rfl rfl (fun w0 C0 hq => ?_)
  refine awp_seq ?_
  refine awp_region ?_
  refine r_assign rfl rfl ?_
  refine awl_nil ?_
  refine x_then ?_
  refine awp_seq ?_
  refine awp_seq ?_
  refine awp_region ?_
  refine r_move rfl rfl ?_
  refine awl_nil ?_
  refine x_then ?_
  refine awp_block ?_
  refine awp_seq ?_
  refine awp_region ?_
  refine r_cmp rfl rfl rfl rfl ?_
  refine r_assign rfl rfl ?_
  refine awl_nil ?_
  refine x_then ?_
  refine awp_cond rfl (fun hc0 => ?_) (fun hc0 => ?_)
  ·
    have hk4 : k = 4 := eq_of_beq hc0
    subst hk4
    refine awp_seq ?_
    refine awp_region ?_
    refine r_assign rfl rfl ?_
    refine awl_nil ?_
    refine x_then ?_
    refine awp_ret ?_
    refine x_blockR ?_
    refine x_thenR ?_
    exact ⟨(.inl rfl), _, [], (.one (by first | exact .mk rfl rfl | exact .nil rfl)), ⟨rfl, by first | rfl | (simp only [rankR, hk1, hk2, hk3, hk4, if_false]; rfl)⟩, (List.nil_sublist _), (by simp)⟩
  ·
    have hk4 : ¬ k = 4 := by simpa using hc0
    refine awp_seq ?_
    refine awp_region ?_
    refine r_cmp rfl rfl rfl rfl ?_
    refine r_assign rfl rfl ?_
    refine awl_nil ?_
    refine x_then ?_
    refine awp_cond rfl (fun hc1 => ?_) (fun hc1 => ?_)
    ·
      have hk2 : k = 2 := eq_of_beq hc1
      subst hk2
      refine awp_seq ?_
      refine awp_region ?_
      refine r_assign rfl rfl ?_
      refine awl_nil ?_
      refine x_then ?_
      refine awp_ret ?_
      refine x_blockR ?_
      refine x_thenR ?_
      exact ⟨(.inl rfl), _, [], (.one (by first | exact .mk rfl rfl | exact .nil rfl)), ⟨rfl, by first | rfl | (simp only [rankR, hk1, hk2, hk3, hk4, if_false]; rfl)⟩, (List.nil_sublist _), (by simp)⟩
    ·
      have hk2 : ¬ k = 2 := by simpa using hc1
      refine awp_seq ?_
      refine awp_region ?_
      refine r_cmp rfl rfl rfl rfl ?_
      refine r_assign rfl rfl ?_
      refine awl_nil ?_
      refine x_then ?_
      refine awp_cond rfl (fun hc2 => ?_) (fun hc2 => ?_)
      ·
        have hk3 : k = 3 := eq_of_beq hc2
        subst hk3
        refine awp_seq ?_
        refine awp_region ?_
        refine r_assign rfl rfl ?_
        refine awl_nil ?_
        refine x_then ?_
        refine awp_ret ?_
        refine x_blockR ?_
        refine x_thenR ?_
        exact ⟨(.inl rfl), _, [], (.one (by first | exact .mk rfl rfl | exact .nil rfl)), ⟨rfl, by first | rfl | (simp only [rankR, hk1, hk2, hk3, hk4, if_false]; rfl)⟩, (List.nil_sublist _), (by simp)⟩
      ·
        have hk3 : ¬ k = 3 := by simpa using hc2
        refine awp_seq ?_
        refine awp_region ?_
        refine r_cmp rfl rfl rfl rfl ?_
        refine r_assign rfl rfl ?_
        refine awl_nil ?_
        refine x_then ?_
        refine awp_cond rfl (fun hc3 => ?_) (fun hc3 => ?_)
        ·
          have hk1 : k = 1 := eq_of_beq hc3
          subst hk1
          refine awp_seq ?_
          refine awp_region ?_
          refine r_assign rfl rfl ?_
          refine awl_nil ?_
          refine x_then ?_
          refine awp_ret ?_
          refine x_blockR ?_
          refine x_thenR ?_
          exact ⟨(.inl rfl), _, [], (.one (by first | exact .mk rfl rfl | exact .nil rfl)), ⟨rfl, by first | rfl | (simp only [rankR, hk1, hk2, hk3, hk4, if_false]; rfl)⟩, (List.nil_sublist _), (by simp)⟩
        ·
          have hk1 : ¬ k = 1 := by simpa using hc3
          refine awp_skip ?_
          refine x_block ?_
          refine x_then ?_
          refine awp_seq ?_
          refine awp_region ?_
          refine r_assign rfl rfl ?_
          refine awl_nil ?_
          refine x_then ?_
          refine awp_ret ?_
          exact ⟨(.inl rfl), _, [], (.one (by first | exact .mk rfl rfl | exact .nil rfl)), ⟨rfl, by first | rfl | (simp only [rankR, hk1, hk2, hk3, hk4, if_false]; rfl)⟩, (List.nil_sublist _), (by simp)⟩

def allN (d : List FC) : List ByteArray := d.flatMap namesC
theorem allN_take {d : List FC} {k : Nat} {c : FC} (h : d[k]? = some c) : allN (d.take (k + 1)) = allN (d.take k) ++ namesC c := names_take h

set_option maxHeartbeats 2000000 in
theorem rright_ok (d : List FC) (hd0 : d.length ≤ 1000) : AC Try.prog 20 [fcsA d] [] (fun r n => n = [] ∧ r = boolA (rightF d)) := by
  refine ac_of_awp (rs := [2]) (nt := 119) Try.func20 rfl rfl rfl rfl (fun w0 C0 hq => ?_)
  refine awp_seq ?_
  refine awp_region ?_
  refine r_assign rfl rfl ?_
  refine awl_nil ?_
  refine x_then ?_
  refine awp_seq ?_
  refine awp_region ?_
  refine r_lit 8 (parts := []) rfl TF.sl57 TF.sz9 TF.zraw9 rfl rfl rfl rfl rfl rfl rfl ?_
  refine r_assign rfl rfl ?_
  refine awl_nil ?_
  refine x_then ?_
  refine awp_seq ?_
  refine awp_seq ?_
  refine awp_region ?_
  refine r_assign rfl rfl ?_
  refine awl_nil ?_
  refine x_then ?_
  refine awp_block ?_
  refine awp_loop (fun nn0 S => ∃ k : Nat, S = ⟨119, [(0, .a (fcsA d)), (3, .own 8 1 ((allN (d.take k)).map (fun s : ByteArray => [AV.v (.string s)]))), (4, .a (.v (.int .i64 ((k : Int)))))], []⟩ ∧ nn0 = d.length - k ∧ (k ≤ d.length) ∧ (∀ i, i < k → okC d i = true) ∧ ((allN (d.take k)).length ≤ 2 * k)) (d.length - (0)) ⟨119, [(0, .a (fcsA d)), (3, .own 8 1 ((allN (d.take (0))).map (fun s : ByteArray => [AV.v (.string s)]))), (4, .a (.v (.int .i64 (((0) : Int)))))], []⟩ ⟨rfl, (Slots.cons rfl (by first | exact .refl _ | exact .nilOwn _ _ | exact .nilSl _ | exact .ownSl _ _ _  | exact SV.le.ownEq (by first | rfl | simp [allN]) | exact SV.le.of_eq (by first | rfl | simp [allN])) (Slots.cons rfl (by first | exact .refl _ | exact .nilOwn _ _ | exact .nilSl _ | exact .ownSl _ _ _  | exact SV.le.ownEq (by first | rfl | simp [allN]) | exact SV.le.of_eq (by first | rfl | simp [allN])) (Slots.cons rfl (by first | exact .refl _ | exact .nilOwn _ _ | exact .nilSl _ | exact .ownSl _ _ _  | exact SV.le.ownEq (by first | rfl | simp [allN]) | exact SV.le.of_eq (by first | rfl | simp [allN])) Slots.nil))), (by first | exact List.Sublist.refl _ | exact .cons_cons _ (.cons _ (.refl _)) | exact List.nil_sublist _ | exact .cons _ (.refl _) | exact .cons _ (.cons _ (.refl _)) | exact .cons _ (.cons _ (.cons _ (.refl _))) | exact .cons _ (.cons _ (.cons _ (.cons _ (.refl _)))) | exact .cons_cons _ (List.nil_sublist _))⟩ ⟨0, rfl, rfl, Nat.zero_le _, (fun i hi => by omega), (by simp [allN])⟩ ?_
  rintro nn0 _ ⟨k, rfl, rfl, hk, hall, hnl⟩
  refine awp_seq ?_
  refine awp_seq ?_
  refine awp_region ?_
  refine r_move rfl rfl ?_
  refine r_move rfl rfl ?_
  first | (refine r_lenS rfl rfl TF.sl30 rfl ?_) | (refine r_lenNil rfl TF.sl30 rfl ?_) | (refine r_lenV rfl TF.sl30 rfl ?_)
  refine r_cmp rfl rfl rfl rfl ?_
  refine awl_nil ?_
  refine x_then ?_
  refine awp_cond rfl (fun hc0 => ?_) (fun hc0 => ?_)
  ·
    have hltx : k < d.length := by have := of_decide_eq_true hc0; simpa using this
    obtain ⟨x, hx⟩ := get_lt hltx
    refine awp_skip ?_
    refine x_then ?_
    refine awp_seq ?_
    refine awp_block ?_
    refine awp_seq ?_
    refine awp_region ?_
    refine r_move rfl rfl ?_
    refine r_move rfl rfl ?_
    refine r_index rfl rfl rfl TF.sl30 TF.sz36 (by omega) (get_map hx) rfl ?_
    refine r_loadA rfl TF.agg36 TF.sz36 rfl rfl ?_
    refine r_alloc TF.zero36 rfl (fun b5 => ?_)
    refine r_store 0 rfl rfl rfl TF.sz36 rfl rfl rfl ?_
    refine awl_nil ?_
    refine x_then ?_
    refine awp_cut (fun S => ∃ b5 : Nat, S = ⟨119, [(0, .a (fcsA d)), (3, .own 8 1 ((allN (d.take k)).map (fun s : ByteArray => [AV.v (.string s)]))), (4, .a (.v (.int .i64 ((k : Int))))), (5, .a (.v (.pointer (some ⟨b5, 0, none⟩))))], [⟨b5, true, .box (FC.cs x)⟩]⟩ ∧ (badF x = false)) ?_ ?_
    ·
      refine awp_seq ?_
      refine awp_region ?_
      first | (refine r_fieldb rfl TF.f36_0 TF.sz3 rfl ?_) | (refine r_fieldcp rfl TF.f36_0 TF.sz3 rfl ?_)
      first | (refine r_load1b 0 rfl rfl rfl TF.agg3 rfl ?_) | (refine r_load1 rfl TF.agg3 rfl ?_)
      refine r_call0 hq rfl rfl (.cons (.ev rfl rfl) .nil) (rrank_ok x.kind) rfl TF.en37 rfl (fun r hr => ?_)
      obtain rfl := hr
      refine r_cmp rfl rfl rfl rfl ?_
      refine r_move rfl rfl ?_
      refine g_cases (t' := 23) rfl (fun hg23 => ?_) (fun hg23 => ?_)
      ·
        refine g_skip rfl rfl hg23 rfl ?_
        refine g_skip rfl rfl hg23 rfl ?_
        refine g_skip rfl rfl hg23 rfl ?_
        refine g_skip rfl rfl hg23 rfl ?_
        refine g_skipU rfl rfl rfl ?_
        refine g_skipU rfl rfl rfl ?_
        refine g_skipU rfl rfl rfl ?_
        refine g_skip rfl rfl hg23 rfl ?_
        refine r_pickT rfl hg23 rfl rfl ?_
        refine r_move rfl rfl ?_
        refine g_skip rfl rfl rfl rfl ?_
        refine g_skip rfl rfl rfl rfl ?_
        refine g_skip rfl rfl rfl rfl ?_
        refine g_skip rfl rfl rfl rfl ?_
        refine g_skipU rfl rfl rfl ?_
        refine g_skipU rfl rfl rfl ?_
        refine g_skipU rfl rfl rfl ?_
        refine g_skip rfl rfl rfl rfl ?_
        refine g_skip rfl rfl rfl rfl ?_
        refine g_skipU rfl rfl rfl ?_
        refine g_skipU rfl rfl rfl ?_
        refine g_skipU rfl rfl rfl ?_
        refine g_skipU rfl rfl rfl ?_
        refine g_skip rfl rfl rfl rfl ?_
        refine r_pickT rfl rfl rfl rfl ?_
        refine awl_nil ?_
        refine x_then ?_
        refine awp_condT rfl ?_
        try (have hq46 : decide (0 < x.data.length) = true := by have h := hc1; simp [u8s_len] at h ⊢; first | exact h | omega)
        have hbx : badF x = true := by first | (unfold badF; rw [hg23]; rfl) | (unfold badF; rw [hg23, hg27, hq33]; rfl) | (unfold badF; rw [hg23, hg27, hg37, hq46]; rfl) | (unfold badF; rw [hg23, hg27, hq33, hg37, hq46]; rfl) | (unfold badF; rw [hg23, hg27, hg37, hg42, hq46]; rfl) | (unfold badF; rw [hg23, hg27, hq33, hg37, hg42, hq46]; rfl) | (unfold badF; rw [hg23, hg27, hg37, hg42]; rfl) | (unfold badF; rw [hg23, hg27, hq33, hg37, hg42]; rfl)
        have hbad : okC d k = false := by rw [← okR_eq]; simp only [okR, hx, hbx, Bool.not_true, Bool.false_and]
        refine awp_seq ?_
        refine awp_region ?_
        refine r_assign rfl rfl ?_
        refine awl_nil ?_
        refine x_then ?_
        refine awp_ret ?_
        refine x_thenR ?_
        refine x_blockR ?_
        refine x_thenR ?_
        refine x_thenR ?_
        refine x_blockR ?_
        refine x_thenR ?_
        exact ⟨(.inl rfl), _, [], (.one (by first | exact .mk rfl rfl | exact .nil rfl)), ⟨rfl, by first | (rw [right_bad hltx hbad]; rfl) | (rw [show rightF d = false from by unfold rightF; rw [← hN, decide_eq_false hdup, Bool.and_false]]; rfl) | (rw [right_good (fun i hi => hall i (by omega)) (by rw [← hN]; exact hnd)]; rfl)⟩, (List.nil_sublist _), (by simp)⟩
      ·
        refine g_run rfl rfl hg23 ?_
        first | (refine r_fieldb rfl TF.f36_0 TF.sz3 rfl ?_) | (refine r_fieldcp rfl TF.f36_0 TF.sz3 rfl ?_)
        refine g_run rfl rfl hg23 ?_
        first | (refine r_load1b 0 rfl rfl rfl TF.agg3 rfl ?_) | (refine r_load1 rfl TF.agg3 rfl ?_)
        refine g_run rfl rfl hg23 ?_
        refine r_cmp rfl rfl rfl rfl ?_
        refine g_run rfl rfl hg23 ?_
        refine r_move rfl rfl ?_
        refine g_cases (t' := 27) rfl (fun hg27 => ?_) (fun hg27 => ?_)
        ·
          refine g_run rfl rfl hg27 ?_
          first | (refine r_fieldb rfl TF.f36_2 TF.sz9 rfl ?_) | (refine r_fieldcp rfl TF.f36_2 TF.sz9 rfl ?_)
          refine g_run rfl rfl hg27 ?_
          first | (refine r_load1b 0 rfl rfl rfl TF.agg9 rfl ?_) | (refine r_load1 rfl TF.agg9 rfl ?_)
          refine g_run rfl rfl hg27 ?_
          refine r_str2 rfl rfl rfl rfl ?_
          refine g_run rfl rfl hg23 ?_
          refine r_pickT rfl hg27 rfl rfl ?_
          refine r_pickF rfl hg23 rfl rfl ?_
          refine r_move rfl rfl ?_
          refine g_cases (t' := 33) rfl (fun hg33 => ?_) (fun hg33 => ?_)
          ·
            have hq33 : decide (x.to = E0) = false := by rw [E0]; simpa using hg33
            refine g_skip rfl rfl hg33 rfl ?_
            refine g_skip rfl rfl hg33 rfl ?_
            refine g_skip rfl rfl hg33 rfl ?_
            refine g_skip rfl rfl hg33 rfl ?_
            refine g_skipU rfl rfl rfl ?_
            refine g_skipU rfl rfl rfl ?_
            refine g_skipU rfl rfl rfl ?_
            refine g_skip rfl rfl hg33 rfl ?_
            refine g_skip rfl rfl hg33 rfl ?_
            refine g_skipU rfl rfl rfl ?_
            refine g_skipU rfl rfl rfl ?_
            refine g_skipU rfl rfl rfl ?_
            refine g_skipU rfl rfl rfl ?_
            refine g_skip rfl rfl hg33 rfl ?_
            refine r_pickT rfl hg33 rfl rfl ?_
            refine awl_nil ?_
            refine x_then ?_
            refine awp_condT rfl ?_
            try (have hq46 : decide (0 < x.data.length) = true := by have h := hc1; simp [u8s_len] at h ⊢; first | exact h | omega)
            have hbx : badF x = true := by first | (unfold badF; rw [hg23]; rfl) | (unfold badF; rw [hg23, hg27, hq33]; rfl) | (unfold badF; rw [hg23, hg27, hg37, hq46]; rfl) | (unfold badF; rw [hg23, hg27, hq33, hg37, hq46]; rfl) | (unfold badF; rw [hg23, hg27, hg37, hg42, hq46]; rfl) | (unfold badF; rw [hg23, hg27, hq33, hg37, hg42, hq46]; rfl) | (unfold badF; rw [hg23, hg27, hg37, hg42]; rfl) | (unfold badF; rw [hg23, hg27, hq33, hg37, hg42]; rfl)
            have hbad : okC d k = false := by rw [← okR_eq]; simp only [okR, hx, hbx, Bool.not_true, Bool.false_and]
            refine awp_seq ?_
            refine awp_region ?_
            refine r_assign rfl rfl ?_
            refine awl_nil ?_
            refine x_then ?_
            refine awp_ret ?_
            refine x_thenR ?_
            refine x_blockR ?_
            refine x_thenR ?_
            refine x_thenR ?_
            refine x_blockR ?_
            refine x_thenR ?_
            exact ⟨(.inl rfl), _, [], (.one (by first | exact .mk rfl rfl | exact .nil rfl)), ⟨rfl, by first | (rw [right_bad hltx hbad]; rfl) | (rw [show rightF d = false from by unfold rightF; rw [← hN, decide_eq_false hdup, Bool.and_false]]; rfl) | (rw [right_good (fun i hi => hall i (by omega)) (by rw [← hN]; exact hnd)]; rfl)⟩, (List.nil_sublist _), (by simp)⟩
          ·
            have hq33 : decide (x.to = E0) = true := by rw [E0]; simpa using hg33
            refine g_run rfl rfl hg33 ?_
            first | (refine r_fieldb rfl TF.f36_0 TF.sz3 rfl ?_) | (refine r_fieldcp rfl TF.f36_0 TF.sz3 rfl ?_)
            refine g_run rfl rfl hg33 ?_
            first | (refine r_load1b 0 rfl rfl rfl TF.agg3 rfl ?_) | (refine r_load1 rfl TF.agg3 rfl ?_)
            refine g_run rfl rfl hg33 ?_
            refine r_cmp rfl rfl rfl rfl ?_
            refine g_run rfl rfl hg33 ?_
            refine r_move rfl rfl ?_
            refine g_cases (t' := 37) rfl (fun hg37 => ?_) (fun hg37 => ?_)
            ·
              refine g_skip rfl rfl hg37 rfl ?_
              refine g_skip rfl rfl hg37 rfl ?_
              refine g_skip rfl rfl hg37 rfl ?_
              refine g_run rfl rfl hg33 ?_
              refine r_pickT rfl hg37 rfl rfl ?_
              refine g_run rfl rfl hg33 ?_
              refine r_move rfl rfl ?_
              refine g_run rfl rfl rfl ?_
              first | (refine r_fieldb rfl TF.f36_3 TF.sz34 rfl ?_) | (refine r_fieldcp rfl TF.f36_3 TF.sz34 rfl ?_)
              refine g_run rfl rfl rfl ?_
              first | (refine r_load1b 0 rfl rfl rfl TF.agg34 rfl ?_) | (refine r_load1 rfl TF.agg34 rfl ?_)
              refine g_run rfl rfl rfl ?_
              first | (refine r_lenS rfl rfl TF.sl34 rfl ?_) | (refine r_lenNil rfl TF.sl34 rfl ?_) | (refine r_lenV rfl TF.sl34 rfl ?_)
              refine g_run rfl rfl rfl ?_
              refine r_cmp rfl rfl rfl rfl ?_
              refine g_run rfl rfl hg33 ?_
              refine r_pickT rfl rfl rfl rfl ?_
              refine r_pickF rfl hg33 rfl rfl ?_
              refine awl_nil ?_
              refine x_then ?_
              refine awp_cond rfl (fun hc1 => ?_) (fun hc1 => ?_)
              ·
                try (have hq46 : decide (0 < x.data.length) = true := by have h := hc1; simp [u8s_len] at h ⊢; first | exact h | omega)
                have hbx : badF x = true := by first | (unfold badF; rw [hg23]; rfl) | (unfold badF; rw [hg23, hg27, hq33]; rfl) | (unfold badF; rw [hg23, hg27, hg37, hq46]; rfl) | (unfold badF; rw [hg23, hg27, hq33, hg37, hq46]; rfl) | (unfold badF; rw [hg23, hg27, hg37, hg42, hq46]; rfl) | (unfold badF; rw [hg23, hg27, hq33, hg37, hg42, hq46]; rfl) | (unfold badF; rw [hg23, hg27, hg37, hg42]; rfl) | (unfold badF; rw [hg23, hg27, hq33, hg37, hg42]; rfl)
                have hbad : okC d k = false := by rw [← okR_eq]; simp only [okR, hx, hbx, Bool.not_true, Bool.false_and]
                refine awp_seq ?_
                refine awp_region ?_
                refine r_assign rfl rfl ?_
                refine awl_nil ?_
                refine x_then ?_
                refine awp_ret ?_
                refine x_thenR ?_
                refine x_blockR ?_
                refine x_thenR ?_
                refine x_thenR ?_
                refine x_blockR ?_
                refine x_thenR ?_
                exact ⟨(.inl rfl), _, [], (.one (by first | exact .mk rfl rfl | exact .nil rfl)), ⟨rfl, by first | (rw [right_bad hltx hbad]; rfl) | (rw [show rightF d = false from by unfold rightF; rw [← hN, decide_eq_false hdup, Bool.and_false]]; rfl) | (rw [right_good (fun i hi => hall i (by omega)) (by rw [← hN]; exact hnd)]; rfl)⟩, (List.nil_sublist _), (by simp)⟩
              ·
                try (have hq46 : decide (0 < x.data.length) = false := by have h := hc1; simp [u8s_len] at h ⊢; first | exact h | omega)
                have hbx : badF x = false := by first | (unfold badF; rw [hg23]; rfl) | (unfold badF; rw [hg23, hg27, hq33]; rfl) | (unfold badF; rw [hg23, hg27, hg37, hq46]; rfl) | (unfold badF; rw [hg23, hg27, hq33, hg37, hq46]; rfl) | (unfold badF; rw [hg23, hg27, hg37, hg42, hq46]; rfl) | (unfold badF; rw [hg23, hg27, hq33, hg37, hg42, hq46]; rfl) | (unfold badF; rw [hg23, hg27, hg37, hg42]; rfl) | (unfold badF; rw [hg23, hg27, hq33, hg37, hg42]; rfl)
                refine awp_skip ?_
                refine x_then ?_
                refine ⟨⟨119, [(0, .a (fcsA d)), (3, .own 8 1 ((allN (d.take k)).map (fun s : ByteArray => [AV.v (.string s)]))), (4, .a (.v (.int .i64 ((k : Int))))), (5, .a (.v (.pointer (some ⟨(b5), 0, none⟩))))], [⟨(b5), true, .box (FC.cs x)⟩]⟩, ⟨rfl, (Slots.cons rfl (by first | exact .refl _ | exact .nilOwn _ _ | exact .nilSl _ | exact .ownSl _ _ _  | exact SV.le.of_eq (by simp)) (Slots.cons rfl (by first | exact .refl _ | exact .nilOwn _ _ | exact .nilSl _ | exact .ownSl _ _ _  | exact SV.le.of_eq (by simp)) (Slots.cons rfl (by first | exact .refl _ | exact .nilOwn _ _ | exact .nilSl _ | exact .ownSl _ _ _  | exact SV.le.of_eq (by simp)) (Slots.cons rfl (by first | exact .refl _ | exact .nilOwn _ _ | exact .nilSl _ | exact .ownSl _ _ _  | exact SV.le.of_eq (by simp)) Slots.nil)))), (by first | exact List.Sublist.refl _ | exact .cons_cons _ (.cons _ (.refl _)) | exact List.nil_sublist _ | exact .cons _ (.refl _) | exact .cons _ (.cons _ (.refl _)) | exact .cons _ (.cons _ (.cons _ (.refl _))) | exact .cons _ (.cons _ (.cons _ (.cons _ (.refl _)))) | exact .cons_cons _ (List.nil_sublist _))⟩, ⟨b5, rfl, hbx⟩⟩
            ·
              refine g_run rfl rfl hg37 ?_
              first | (refine r_fieldb rfl TF.f36_0 TF.sz3 rfl ?_) | (refine r_fieldcp rfl TF.f36_0 TF.sz3 rfl ?_)
              refine g_run rfl rfl hg37 ?_
              first | (refine r_load1b 0 rfl rfl rfl TF.agg3 rfl ?_) | (refine r_load1 rfl TF.agg3 rfl ?_)
              refine g_run rfl rfl hg37 ?_
              refine r_cmp rfl rfl rfl rfl ?_
              refine g_run rfl rfl hg33 ?_
              refine r_pickF rfl hg37 rfl rfl ?_
              refine g_run rfl rfl hg33 ?_
              refine r_move rfl rfl ?_
              refine g_cases (t' := 42) rfl (fun hg42 => ?_) (fun hg42 => ?_)
              ·
                refine g_run rfl rfl hg42 ?_
                first | (refine r_fieldb rfl TF.f36_3 TF.sz34 rfl ?_) | (refine r_fieldcp rfl TF.f36_3 TF.sz34 rfl ?_)
                refine g_run rfl rfl hg42 ?_
                first | (refine r_load1b 0 rfl rfl rfl TF.agg34 rfl ?_) | (refine r_load1 rfl TF.agg34 rfl ?_)
                refine g_run rfl rfl hg42 ?_
                first | (refine r_lenS rfl rfl TF.sl34 rfl ?_) | (refine r_lenNil rfl TF.sl34 rfl ?_) | (refine r_lenV rfl TF.sl34 rfl ?_)
                refine g_run rfl rfl hg42 ?_
                refine r_cmp rfl rfl rfl rfl ?_
                refine g_run rfl rfl hg33 ?_
                refine r_pickT rfl hg42 rfl rfl ?_
                refine r_pickF rfl hg33 rfl rfl ?_
                refine awl_nil ?_
                refine x_then ?_
                refine awp_cond rfl (fun hc1 => ?_) (fun hc1 => ?_)
                ·
                  try (have hq46 : decide (0 < x.data.length) = true := by have h := hc1; simp [u8s_len] at h ⊢; first | exact h | omega)
                  have hbx : badF x = true := by first | (unfold badF; rw [hg23]; rfl) | (unfold badF; rw [hg23, hg27, hq33]; rfl) | (unfold badF; rw [hg23, hg27, hg37, hq46]; rfl) | (unfold badF; rw [hg23, hg27, hq33, hg37, hq46]; rfl) | (unfold badF; rw [hg23, hg27, hg37, hg42, hq46]; rfl) | (unfold badF; rw [hg23, hg27, hq33, hg37, hg42, hq46]; rfl) | (unfold badF; rw [hg23, hg27, hg37, hg42]; rfl) | (unfold badF; rw [hg23, hg27, hq33, hg37, hg42]; rfl)
                  have hbad : okC d k = false := by rw [← okR_eq]; simp only [okR, hx, hbx, Bool.not_true, Bool.false_and]
                  refine awp_seq ?_
                  refine awp_region ?_
                  refine r_assign rfl rfl ?_
                  refine awl_nil ?_
                  refine x_then ?_
                  refine awp_ret ?_
                  refine x_thenR ?_
                  refine x_blockR ?_
                  refine x_thenR ?_
                  refine x_thenR ?_
                  refine x_blockR ?_
                  refine x_thenR ?_
                  exact ⟨(.inl rfl), _, [], (.one (by first | exact .mk rfl rfl | exact .nil rfl)), ⟨rfl, by first | (rw [right_bad hltx hbad]; rfl) | (rw [show rightF d = false from by unfold rightF; rw [← hN, decide_eq_false hdup, Bool.and_false]]; rfl) | (rw [right_good (fun i hi => hall i (by omega)) (by rw [← hN]; exact hnd)]; rfl)⟩, (List.nil_sublist _), (by simp)⟩
                ·
                  try (have hq46 : decide (0 < x.data.length) = false := by have h := hc1; simp [u8s_len] at h ⊢; first | exact h | omega)
                  have hbx : badF x = false := by first | (unfold badF; rw [hg23]; rfl) | (unfold badF; rw [hg23, hg27, hq33]; rfl) | (unfold badF; rw [hg23, hg27, hg37, hq46]; rfl) | (unfold badF; rw [hg23, hg27, hq33, hg37, hq46]; rfl) | (unfold badF; rw [hg23, hg27, hg37, hg42, hq46]; rfl) | (unfold badF; rw [hg23, hg27, hq33, hg37, hg42, hq46]; rfl) | (unfold badF; rw [hg23, hg27, hg37, hg42]; rfl) | (unfold badF; rw [hg23, hg27, hq33, hg37, hg42]; rfl)
                  refine awp_skip ?_
                  refine x_then ?_
                  refine ⟨⟨119, [(0, .a (fcsA d)), (3, .own 8 1 ((allN (d.take k)).map (fun s : ByteArray => [AV.v (.string s)]))), (4, .a (.v (.int .i64 ((k : Int))))), (5, .a (.v (.pointer (some ⟨(b5), 0, none⟩))))], [⟨(b5), true, .box (FC.cs x)⟩]⟩, ⟨rfl, (Slots.cons rfl (by first | exact .refl _ | exact .nilOwn _ _ | exact .nilSl _ | exact .ownSl _ _ _  | exact SV.le.of_eq (by simp)) (Slots.cons rfl (by first | exact .refl _ | exact .nilOwn _ _ | exact .nilSl _ | exact .ownSl _ _ _  | exact SV.le.of_eq (by simp)) (Slots.cons rfl (by first | exact .refl _ | exact .nilOwn _ _ | exact .nilSl _ | exact .ownSl _ _ _  | exact SV.le.of_eq (by simp)) (Slots.cons rfl (by first | exact .refl _ | exact .nilOwn _ _ | exact .nilSl _ | exact .ownSl _ _ _  | exact SV.le.of_eq (by simp)) Slots.nil)))), (by first | exact List.Sublist.refl _ | exact .cons_cons _ (.cons _ (.refl _)) | exact List.nil_sublist _ | exact .cons _ (.refl _) | exact .cons _ (.cons _ (.refl _)) | exact .cons _ (.cons _ (.cons _ (.refl _))) | exact .cons _ (.cons _ (.cons _ (.cons _ (.refl _)))) | exact .cons_cons _ (List.nil_sublist _))⟩, ⟨b5, rfl, hbx⟩⟩
              ·
                refine g_skip rfl rfl hg42 rfl ?_
                refine g_skip rfl rfl hg42 rfl ?_
                refine g_skip rfl rfl hg42 rfl ?_
                refine g_skip rfl rfl hg42 rfl ?_
                refine g_run rfl rfl hg33 ?_
                refine r_pickF rfl hg42 rfl rfl ?_
                refine r_pickF rfl hg33 rfl rfl ?_
                refine awl_nil ?_
                refine x_then ?_
                refine awp_condF rfl ?_
                try (have hq46 : decide (0 < x.data.length) = false := by have h := hc1; simp [u8s_len] at h ⊢; first | exact h | omega)
                have hbx : badF x = false := by first | (unfold badF; rw [hg23]; rfl) | (unfold badF; rw [hg23, hg27, hq33]; rfl) | (unfold badF; rw [hg23, hg27, hg37, hq46]; rfl) | (unfold badF; rw [hg23, hg27, hq33, hg37, hq46]; rfl) | (unfold badF; rw [hg23, hg27, hg37, hg42, hq46]; rfl) | (unfold badF; rw [hg23, hg27, hq33, hg37, hg42, hq46]; rfl) | (unfold badF; rw [hg23, hg27, hg37, hg42]; rfl) | (unfold badF; rw [hg23, hg27, hq33, hg37, hg42]; rfl)
                refine awp_skip ?_
                refine x_then ?_
                refine ⟨⟨119, [(0, .a (fcsA d)), (3, .own 8 1 ((allN (d.take k)).map (fun s : ByteArray => [AV.v (.string s)]))), (4, .a (.v (.int .i64 ((k : Int))))), (5, .a (.v (.pointer (some ⟨(b5), 0, none⟩))))], [⟨(b5), true, .box (FC.cs x)⟩]⟩, ⟨rfl, (Slots.cons rfl (by first | exact .refl _ | exact .nilOwn _ _ | exact .nilSl _ | exact .ownSl _ _ _  | exact SV.le.of_eq (by simp)) (Slots.cons rfl (by first | exact .refl _ | exact .nilOwn _ _ | exact .nilSl _ | exact .ownSl _ _ _  | exact SV.le.of_eq (by simp)) (Slots.cons rfl (by first | exact .refl _ | exact .nilOwn _ _ | exact .nilSl _ | exact .ownSl _ _ _  | exact SV.le.of_eq (by simp)) (Slots.cons rfl (by first | exact .refl _ | exact .nilOwn _ _ | exact .nilSl _ | exact .ownSl _ _ _  | exact SV.le.of_eq (by simp)) Slots.nil)))), (by first | exact List.Sublist.refl _ | exact .cons_cons _ (.cons _ (.refl _)) | exact List.nil_sublist _ | exact .cons _ (.refl _) | exact .cons _ (.cons _ (.refl _)) | exact .cons _ (.cons _ (.cons _ (.refl _))) | exact .cons _ (.cons _ (.cons _ (.cons _ (.refl _)))) | exact .cons_cons _ (List.nil_sublist _))⟩, ⟨b5, rfl, hbx⟩⟩
        ·
          refine g_skip rfl rfl hg27 rfl ?_
          refine g_skip rfl rfl hg27 rfl ?_
          refine g_skip rfl rfl hg27 rfl ?_
          refine g_run rfl rfl hg23 ?_
          refine r_pickF rfl hg27 rfl rfl ?_
          refine r_pickF rfl hg23 rfl rfl ?_
          refine r_move rfl rfl ?_
          refine g_run rfl rfl rfl ?_
          first | (refine r_fieldb rfl TF.f36_0 TF.sz3 rfl ?_) | (refine r_fieldcp rfl TF.f36_0 TF.sz3 rfl ?_)
          refine g_run rfl rfl rfl ?_
          first | (refine r_load1b 0 rfl rfl rfl TF.agg3 rfl ?_) | (refine r_load1 rfl TF.agg3 rfl ?_)
          refine g_run rfl rfl rfl ?_
          refine r_cmp rfl rfl rfl rfl ?_
          refine g_run rfl rfl rfl ?_
          refine r_move rfl rfl ?_
          refine g_cases (t' := 37) rfl (fun hg37 => ?_) (fun hg37 => ?_)
          ·
            refine g_skip rfl rfl hg37 rfl ?_
            refine g_skip rfl rfl hg37 rfl ?_
            refine g_skip rfl rfl hg37 rfl ?_
            refine g_run rfl rfl rfl ?_
            refine r_pickT rfl hg37 rfl rfl ?_
            refine g_run rfl rfl rfl ?_
            refine r_move rfl rfl ?_
            refine g_run rfl rfl rfl ?_
            first | (refine r_fieldb rfl TF.f36_3 TF.sz34 rfl ?_) | (refine r_fieldcp rfl TF.f36_3 TF.sz34 rfl ?_)
            refine g_run rfl rfl rfl ?_
            first | (refine r_load1b 0 rfl rfl rfl TF.agg34 rfl ?_) | (refine r_load1 rfl TF.agg34 rfl ?_)
            refine g_run rfl rfl rfl ?_
            first | (refine r_lenS rfl rfl TF.sl34 rfl ?_) | (refine r_lenNil rfl TF.sl34 rfl ?_) | (refine r_lenV rfl TF.sl34 rfl ?_)
            refine g_run rfl rfl rfl ?_
            refine r_cmp rfl rfl rfl rfl ?_
            refine g_run rfl rfl rfl ?_
            refine r_pickT rfl rfl rfl rfl ?_
            refine r_pickF rfl rfl rfl rfl ?_
            refine awl_nil ?_
            refine x_then ?_
            refine awp_cond rfl (fun hc1 => ?_) (fun hc1 => ?_)
            ·
              try (have hq46 : decide (0 < x.data.length) = true := by have h := hc1; simp [u8s_len] at h ⊢; first | exact h | omega)
              have hbx : badF x = true := by first | (unfold badF; rw [hg23]; rfl) | (unfold badF; rw [hg23, hg27, hq33]; rfl) | (unfold badF; rw [hg23, hg27, hg37, hq46]; rfl) | (unfold badF; rw [hg23, hg27, hq33, hg37, hq46]; rfl) | (unfold badF; rw [hg23, hg27, hg37, hg42, hq46]; rfl) | (unfold badF; rw [hg23, hg27, hq33, hg37, hg42, hq46]; rfl) | (unfold badF; rw [hg23, hg27, hg37, hg42]; rfl) | (unfold badF; rw [hg23, hg27, hq33, hg37, hg42]; rfl)
              have hbad : okC d k = false := by rw [← okR_eq]; simp only [okR, hx, hbx, Bool.not_true, Bool.false_and]
              refine awp_seq ?_
              refine awp_region ?_
              refine r_assign rfl rfl ?_
              refine awl_nil ?_
              refine x_then ?_
              refine awp_ret ?_
              refine x_thenR ?_
              refine x_blockR ?_
              refine x_thenR ?_
              refine x_thenR ?_
              refine x_blockR ?_
              refine x_thenR ?_
              exact ⟨(.inl rfl), _, [], (.one (by first | exact .mk rfl rfl | exact .nil rfl)), ⟨rfl, by first | (rw [right_bad hltx hbad]; rfl) | (rw [show rightF d = false from by unfold rightF; rw [← hN, decide_eq_false hdup, Bool.and_false]]; rfl) | (rw [right_good (fun i hi => hall i (by omega)) (by rw [← hN]; exact hnd)]; rfl)⟩, (List.nil_sublist _), (by simp)⟩
            ·
              try (have hq46 : decide (0 < x.data.length) = false := by have h := hc1; simp [u8s_len] at h ⊢; first | exact h | omega)
              have hbx : badF x = false := by first | (unfold badF; rw [hg23]; rfl) | (unfold badF; rw [hg23, hg27, hq33]; rfl) | (unfold badF; rw [hg23, hg27, hg37, hq46]; rfl) | (unfold badF; rw [hg23, hg27, hq33, hg37, hq46]; rfl) | (unfold badF; rw [hg23, hg27, hg37, hg42, hq46]; rfl) | (unfold badF; rw [hg23, hg27, hq33, hg37, hg42, hq46]; rfl) | (unfold badF; rw [hg23, hg27, hg37, hg42]; rfl) | (unfold badF; rw [hg23, hg27, hq33, hg37, hg42]; rfl)
              refine awp_skip ?_
              refine x_then ?_
              refine ⟨⟨119, [(0, .a (fcsA d)), (3, .own 8 1 ((allN (d.take k)).map (fun s : ByteArray => [AV.v (.string s)]))), (4, .a (.v (.int .i64 ((k : Int))))), (5, .a (.v (.pointer (some ⟨(b5), 0, none⟩))))], [⟨(b5), true, .box (FC.cs x)⟩]⟩, ⟨rfl, (Slots.cons rfl (by first | exact .refl _ | exact .nilOwn _ _ | exact .nilSl _ | exact .ownSl _ _ _  | exact SV.le.of_eq (by simp)) (Slots.cons rfl (by first | exact .refl _ | exact .nilOwn _ _ | exact .nilSl _ | exact .ownSl _ _ _  | exact SV.le.of_eq (by simp)) (Slots.cons rfl (by first | exact .refl _ | exact .nilOwn _ _ | exact .nilSl _ | exact .ownSl _ _ _  | exact SV.le.of_eq (by simp)) (Slots.cons rfl (by first | exact .refl _ | exact .nilOwn _ _ | exact .nilSl _ | exact .ownSl _ _ _  | exact SV.le.of_eq (by simp)) Slots.nil)))), (by first | exact List.Sublist.refl _ | exact .cons_cons _ (.cons _ (.refl _)) | exact List.nil_sublist _ | exact .cons _ (.refl _) | exact .cons _ (.cons _ (.refl _)) | exact .cons _ (.cons _ (.cons _ (.refl _))) | exact .cons _ (.cons _ (.cons _ (.cons _ (.refl _)))) | exact .cons_cons _ (List.nil_sublist _))⟩, ⟨b5, rfl, hbx⟩⟩
          ·
            refine g_run rfl rfl hg37 ?_
            first | (refine r_fieldb rfl TF.f36_0 TF.sz3 rfl ?_) | (refine r_fieldcp rfl TF.f36_0 TF.sz3 rfl ?_)
            refine g_run rfl rfl hg37 ?_
            first | (refine r_load1b 0 rfl rfl rfl TF.agg3 rfl ?_) | (refine r_load1 rfl TF.agg3 rfl ?_)
            refine g_run rfl rfl hg37 ?_
            refine r_cmp rfl rfl rfl rfl ?_
            refine g_run rfl rfl rfl ?_
            refine r_pickF rfl hg37 rfl rfl ?_
            refine g_run rfl rfl rfl ?_
            refine r_move rfl rfl ?_
            refine g_cases (t' := 42) rfl (fun hg42 => ?_) (fun hg42 => ?_)
            ·
              refine g_run rfl rfl hg42 ?_
              first | (refine r_fieldb rfl TF.f36_3 TF.sz34 rfl ?_) | (refine r_fieldcp rfl TF.f36_3 TF.sz34 rfl ?_)
              refine g_run rfl rfl hg42 ?_
              first | (refine r_load1b 0 rfl rfl rfl TF.agg34 rfl ?_) | (refine r_load1 rfl TF.agg34 rfl ?_)
              refine g_run rfl rfl hg42 ?_
              first | (refine r_lenS rfl rfl TF.sl34 rfl ?_) | (refine r_lenNil rfl TF.sl34 rfl ?_) | (refine r_lenV rfl TF.sl34 rfl ?_)
              refine g_run rfl rfl hg42 ?_
              refine r_cmp rfl rfl rfl rfl ?_
              refine g_run rfl rfl rfl ?_
              refine r_pickT rfl hg42 rfl rfl ?_
              refine r_pickF rfl rfl rfl rfl ?_
              refine awl_nil ?_
              refine x_then ?_
              refine awp_cond rfl (fun hc1 => ?_) (fun hc1 => ?_)
              ·
                try (have hq46 : decide (0 < x.data.length) = true := by have h := hc1; simp [u8s_len] at h ⊢; first | exact h | omega)
                have hbx : badF x = true := by first | (unfold badF; rw [hg23]; rfl) | (unfold badF; rw [hg23, hg27, hq33]; rfl) | (unfold badF; rw [hg23, hg27, hg37, hq46]; rfl) | (unfold badF; rw [hg23, hg27, hq33, hg37, hq46]; rfl) | (unfold badF; rw [hg23, hg27, hg37, hg42, hq46]; rfl) | (unfold badF; rw [hg23, hg27, hq33, hg37, hg42, hq46]; rfl) | (unfold badF; rw [hg23, hg27, hg37, hg42]; rfl) | (unfold badF; rw [hg23, hg27, hq33, hg37, hg42]; rfl)
                have hbad : okC d k = false := by rw [← okR_eq]; simp only [okR, hx, hbx, Bool.not_true, Bool.false_and]
                refine awp_seq ?_
                refine awp_region ?_
                refine r_assign rfl rfl ?_
                refine awl_nil ?_
                refine x_then ?_
                refine awp_ret ?_
                refine x_thenR ?_
                refine x_blockR ?_
                refine x_thenR ?_
                refine x_thenR ?_
                refine x_blockR ?_
                refine x_thenR ?_
                exact ⟨(.inl rfl), _, [], (.one (by first | exact .mk rfl rfl | exact .nil rfl)), ⟨rfl, by first | (rw [right_bad hltx hbad]; rfl) | (rw [show rightF d = false from by unfold rightF; rw [← hN, decide_eq_false hdup, Bool.and_false]]; rfl) | (rw [right_good (fun i hi => hall i (by omega)) (by rw [← hN]; exact hnd)]; rfl)⟩, (List.nil_sublist _), (by simp)⟩
              ·
                try (have hq46 : decide (0 < x.data.length) = false := by have h := hc1; simp [u8s_len] at h ⊢; first | exact h | omega)
                have hbx : badF x = false := by first | (unfold badF; rw [hg23]; rfl) | (unfold badF; rw [hg23, hg27, hq33]; rfl) | (unfold badF; rw [hg23, hg27, hg37, hq46]; rfl) | (unfold badF; rw [hg23, hg27, hq33, hg37, hq46]; rfl) | (unfold badF; rw [hg23, hg27, hg37, hg42, hq46]; rfl) | (unfold badF; rw [hg23, hg27, hq33, hg37, hg42, hq46]; rfl) | (unfold badF; rw [hg23, hg27, hg37, hg42]; rfl) | (unfold badF; rw [hg23, hg27, hq33, hg37, hg42]; rfl)
                refine awp_skip ?_
                refine x_then ?_
                refine ⟨⟨119, [(0, .a (fcsA d)), (3, .own 8 1 ((allN (d.take k)).map (fun s : ByteArray => [AV.v (.string s)]))), (4, .a (.v (.int .i64 ((k : Int))))), (5, .a (.v (.pointer (some ⟨(b5), 0, none⟩))))], [⟨(b5), true, .box (FC.cs x)⟩]⟩, ⟨rfl, (Slots.cons rfl (by first | exact .refl _ | exact .nilOwn _ _ | exact .nilSl _ | exact .ownSl _ _ _  | exact SV.le.of_eq (by simp)) (Slots.cons rfl (by first | exact .refl _ | exact .nilOwn _ _ | exact .nilSl _ | exact .ownSl _ _ _  | exact SV.le.of_eq (by simp)) (Slots.cons rfl (by first | exact .refl _ | exact .nilOwn _ _ | exact .nilSl _ | exact .ownSl _ _ _  | exact SV.le.of_eq (by simp)) (Slots.cons rfl (by first | exact .refl _ | exact .nilOwn _ _ | exact .nilSl _ | exact .ownSl _ _ _  | exact SV.le.of_eq (by simp)) Slots.nil)))), (by first | exact List.Sublist.refl _ | exact .cons_cons _ (.cons _ (.refl _)) | exact List.nil_sublist _ | exact .cons _ (.refl _) | exact .cons _ (.cons _ (.refl _)) | exact .cons _ (.cons _ (.cons _ (.refl _))) | exact .cons _ (.cons _ (.cons _ (.cons _ (.refl _)))) | exact .cons_cons _ (List.nil_sublist _))⟩, ⟨b5, rfl, hbx⟩⟩
            ·
              refine g_skip rfl rfl hg42 rfl ?_
              refine g_skip rfl rfl hg42 rfl ?_
              refine g_skip rfl rfl hg42 rfl ?_
              refine g_skip rfl rfl hg42 rfl ?_
              refine g_run rfl rfl rfl ?_
              refine r_pickF rfl hg42 rfl rfl ?_
              refine r_pickF rfl rfl rfl rfl ?_
              refine awl_nil ?_
              refine x_then ?_
              refine awp_condF rfl ?_
              try (have hq46 : decide (0 < x.data.length) = false := by have h := hc1; simp [u8s_len] at h ⊢; first | exact h | omega)
              have hbx : badF x = false := by first | (unfold badF; rw [hg23]; rfl) | (unfold badF; rw [hg23, hg27, hq33]; rfl) | (unfold badF; rw [hg23, hg27, hg37, hq46]; rfl) | (unfold badF; rw [hg23, hg27, hq33, hg37, hq46]; rfl) | (unfold badF; rw [hg23, hg27, hg37, hg42, hq46]; rfl) | (unfold badF; rw [hg23, hg27, hq33, hg37, hg42, hq46]; rfl) | (unfold badF; rw [hg23, hg27, hg37, hg42]; rfl) | (unfold badF; rw [hg23, hg27, hq33, hg37, hg42]; rfl)
              refine awp_skip ?_
              refine x_then ?_
              refine ⟨⟨119, [(0, .a (fcsA d)), (3, .own 8 1 ((allN (d.take k)).map (fun s : ByteArray => [AV.v (.string s)]))), (4, .a (.v (.int .i64 ((k : Int))))), (5, .a (.v (.pointer (some ⟨(b5), 0, none⟩))))], [⟨(b5), true, .box (FC.cs x)⟩]⟩, ⟨rfl, (Slots.cons rfl (by first | exact .refl _ | exact .nilOwn _ _ | exact .nilSl _ | exact .ownSl _ _ _  | exact SV.le.of_eq (by simp)) (Slots.cons rfl (by first | exact .refl _ | exact .nilOwn _ _ | exact .nilSl _ | exact .ownSl _ _ _  | exact SV.le.of_eq (by simp)) (Slots.cons rfl (by first | exact .refl _ | exact .nilOwn _ _ | exact .nilSl _ | exact .ownSl _ _ _  | exact SV.le.of_eq (by simp)) (Slots.cons rfl (by first | exact .refl _ | exact .nilOwn _ _ | exact .nilSl _ | exact .ownSl _ _ _  | exact SV.le.of_eq (by simp)) Slots.nil)))), (by first | exact List.Sublist.refl _ | exact .cons_cons _ (.cons _ (.refl _)) | exact List.nil_sublist _ | exact .cons _ (.refl _) | exact .cons _ (.cons _ (.refl _)) | exact .cons _ (.cons _ (.cons _ (.refl _))) | exact .cons _ (.cons _ (.cons _ (.cons _ (.refl _)))) | exact .cons_cons _ (List.nil_sublist _))⟩, ⟨b5, rfl, hbx⟩⟩
    ·
      rintro _ ⟨b5, rfl, hbx⟩
      refine awp_seq ?_
      refine awp_seq ?_
      rcases Bool.eq_false_or_eq_true (decide ((0 : Int) < (k : Int))) with hg51 | hg51
      ·
        have hk0 : 0 < k := by have := of_decide_eq_true hg51; omega
        obtain ⟨y, hy⟩ := get_lt (show k - 1 < d.length by omega)
        rcases Bool.eq_false_or_eq_true (decide (rankR x.kind < rankR y.kind)) with hg63 | hg63
        ·
          have hbad : okC d k = false := by rw [← okR_eq]; simp only [okR, hx, hy, hbx, decide_eq_true hk0, hg63]; rfl
          refine awp_drawS [49, 50, 51, 52, 53, 54, 55, 56, 57, 58, 59, 60, 61, 62, 63, 64, 65, 66, 67, 68, 69, 70, 71, 72, 73, 74, 75, 76, 77, 78, 79, 80, 81] [_, _, _, _, _, _, _, _, _, _, _, _, _, _, _, _, _, _, _, _, _, _, _, _, _, _, _, _, _, _, _, _, _] [] [] TF.mixed rfl rfl rfl ⟨⟨⟨⟨⟨⟨⟨⟨⟨⟨⟨⟨⟨⟨⟨⟨⟨⟨⟨⟨⟨⟨⟨⟨⟨⟨⟨⟨⟨⟨⟨⟨⟨trivial
            , ⟨_, rfl, fun sl hd hr ho => by
                refine r_move (hr 4 _ rfl rfl rfl) rfl ?_
                exact awl_nil ⟨rfl, post_put⟩⟩⟩
            , ⟨_, rfl, fun sl hd hr ho => by
                refine r_cmp (hd 0 _ rfl rfl rfl) rfl rfl rfl ?_
                exact awl_nil ⟨rfl, post_put⟩⟩⟩
            , ⟨_, rfl, fun sl hd hr ho => by
                refine r_move (hd 1 _ rfl rfl rfl) rfl ?_
                exact awl_nil ⟨rfl, post_put⟩⟩⟩
            , ⟨_, rfl, fun sl hd hr ho => by
                refine g_run rfl (hd 2 _ rfl rfl rfl) hg51 ?_
                refine r_move (hr 0 _ rfl rfl rfl) rfl ?_
                exact awl_nil ⟨rfl, post_put⟩⟩⟩
            , ⟨_, rfl, fun sl hd hr ho => by
                refine g_run rfl (hd 2 _ rfl rfl rfl) hg51 ?_
                refine r_move (hr 4 _ rfl rfl rfl) rfl ?_
                exact awl_nil ⟨rfl, post_put⟩⟩⟩
            , ⟨_, rfl, fun sl hd hr ho => by
                refine g_run rfl (hd 2 _ rfl rfl rfl) hg51 ?_
                refine r_ari _ (hd 4 _ rfl rfl rfl) rfl rfl (wrap_id (by first | omega | (simp; omega))) rfl ?_
                exact awl_nil ⟨rfl, post_put⟩⟩⟩
            , ⟨_, rfl, fun sl hd hr ho => by
                refine g_run rfl (hd 2 _ rfl rfl rfl) hg51 ?_
                refine r_index (hd 3 _ rfl rfl rfl) rfl (hd 5 _ rfl rfl rfl) TF.sl30 TF.sz36 (by omega) (by rw [show ((k : Int) - 1).toNat = k - 1 by omega]; exact get_map hy) rfl ?_
                exact awl_nil ⟨rfl, post_put⟩⟩⟩
            , ⟨_, rfl, fun sl hd hr ho => by
                refine g_run rfl (hd 2 _ rfl rfl rfl) hg51 ?_
                first | (refine r_fieldb (hd 6 _ rfl rfl rfl) TF.f36_0 TF.sz3 rfl ?_) | (refine r_fieldcp (hd 6 _ rfl rfl rfl) TF.f36_0 TF.sz3 rfl ?_)
                exact awl_nil ⟨rfl, post_put⟩⟩⟩
            , ⟨_, rfl, fun sl hd hr ho => by
                refine g_run rfl (hd 2 _ rfl rfl rfl) hg51 ?_
                first | (refine r_load1b 0 (hd 7 _ rfl rfl rfl) rfl rfl TF.agg3 rfl ?_) | (refine r_load1 (hd 7 _ rfl rfl rfl) TF.agg3 rfl ?_)
                exact awl_nil ⟨rfl, post_put⟩⟩⟩
            , ⟨_, rfl, fun sl hd hr ho => by
                refine g_run rfl (hd 2 _ rfl rfl rfl) hg51 ?_
                refine r_call0 hq rfl rfl (.cons (.ev (hd 8 _ rfl rfl rfl) rfl) .nil) (rrank_ok y.kind) rfl TF.en37 rfl (fun r hr => ?_)
                obtain rfl := hr
                exact awl_nil ⟨rfl, post_put⟩⟩⟩
            , ⟨_, rfl, fun sl hd hr ho => by
                refine g_run rfl (hd 2 _ rfl rfl rfl) hg51 ?_
                first | (refine r_fieldb (hr 5 _ rfl rfl rfl) TF.f36_0 TF.sz3 rfl ?_) | (refine r_fieldcp (hr 5 _ rfl rfl rfl) TF.f36_0 TF.sz3 rfl ?_)
                exact awl_nil ⟨rfl, post_put⟩⟩⟩
            , ⟨_, rfl, fun sl hd hr ho => by
                refine g_run rfl (hd 2 _ rfl rfl rfl) hg51 ?_
                first | (refine r_load1b 0 (hd 10 _ rfl rfl rfl) rfl rfl TF.agg3 rfl ?_) | (refine r_load1 (hd 10 _ rfl rfl rfl) TF.agg3 rfl ?_)
                exact awl_nil ⟨rfl, post_put⟩⟩⟩
            , ⟨_, rfl, fun sl hd hr ho => by
                refine g_run rfl (hd 2 _ rfl rfl rfl) hg51 ?_
                refine r_call0 hq rfl rfl (.cons (.ev (hd 11 _ rfl rfl rfl) rfl) .nil) (rrank_ok x.kind) rfl TF.en37 rfl (fun r hr => ?_)
                obtain rfl := hr
                exact awl_nil ⟨rfl, post_put⟩⟩⟩
            , ⟨_, rfl, fun sl hd hr ho => by
                refine g_run rfl (hd 2 _ rfl rfl rfl) hg51 ?_
                refine r_cmp (hd 9 _ rfl rfl rfl) (hd 12 _ rfl rfl rfl) rfl rfl ?_
                exact awl_nil ⟨rfl, post_put⟩⟩⟩
            , ⟨_, rfl, fun sl hd hr ho => by
                refine g_run rfl (hd 2 _ rfl rfl rfl) hg51 ?_
                refine r_move (hd 13 _ rfl rfl rfl) rfl ?_
                exact awl_nil ⟨rfl, post_put⟩⟩⟩
            , ⟨_, rfl, fun sl hd hr ho => by
                refine g_skip rfl (hd 14 _ rfl rfl rfl) hg63 rfl ?_
                exact awl_nil ⟨rfl, post_put⟩⟩⟩
            , ⟨_, rfl, fun sl hd hr ho => by
                refine g_skip rfl (hd 14 _ rfl rfl rfl) hg63 rfl ?_
                exact awl_nil ⟨rfl, post_put⟩⟩⟩
            , ⟨_, rfl, fun sl hd hr ho => by
                refine g_skip rfl (hd 14 _ rfl rfl rfl) hg63 rfl ?_
                exact awl_nil ⟨rfl, post_put⟩⟩⟩
            , ⟨_, rfl, fun sl hd hr ho => by
                refine g_skip rfl (hd 14 _ rfl rfl rfl) hg63 rfl ?_
                exact awl_nil ⟨rfl, post_put⟩⟩⟩
            , ⟨_, rfl, fun sl hd hr ho => by
                refine g_skip rfl (hd 14 _ rfl rfl rfl) hg63 rfl ?_
                exact awl_nil ⟨rfl, post_put⟩⟩⟩
            , ⟨_, rfl, fun sl hd hr ho => by
                refine g_skip rfl (hd 14 _ rfl rfl rfl) hg63 rfl ?_
                exact awl_nil ⟨rfl, post_put⟩⟩⟩
            , ⟨_, rfl, fun sl hd hr ho => by
                refine g_skip rfl (hd 14 _ rfl rfl rfl) hg63 rfl ?_
                exact awl_nil ⟨rfl, post_put⟩⟩⟩
            , ⟨_, rfl, fun sl hd hr ho => by
                refine g_skip rfl (hd 14 _ rfl rfl rfl) hg63 rfl ?_
                exact awl_nil ⟨rfl, post_put⟩⟩⟩
            , ⟨_, rfl, fun sl hd hr ho => by
                refine g_skip rfl (hd 14 _ rfl rfl rfl) hg63 rfl ?_
                exact awl_nil ⟨rfl, post_put⟩⟩⟩
            , ⟨_, rfl, fun sl hd hr ho => by
                refine g_skip rfl (hd 14 _ rfl rfl rfl) hg63 rfl ?_
                exact awl_nil ⟨rfl, post_put⟩⟩⟩
            , ⟨_, rfl, fun sl hd hr ho => by
                refine g_skipU rfl (hd 24 _ rfl rfl rfl) rfl ?_
                exact awl_nil ⟨rfl, post_put⟩⟩⟩
            , ⟨_, rfl, fun sl hd hr ho => by
                refine g_skipU rfl (hd 24 _ rfl rfl rfl) rfl ?_
                exact awl_nil ⟨rfl, post_put⟩⟩⟩
            , ⟨_, rfl, fun sl hd hr ho => by
                refine g_skipU rfl (hd 24 _ rfl rfl rfl) rfl ?_
                exact awl_nil ⟨rfl, post_put⟩⟩⟩
            , ⟨_, rfl, fun sl hd hr ho => by
                refine g_skipU rfl (hd 24 _ rfl rfl rfl) rfl ?_
                exact awl_nil ⟨rfl, post_put⟩⟩⟩
            , ⟨_, rfl, fun sl hd hr ho => by
                refine g_skipU rfl (hd 24 _ rfl rfl rfl) rfl ?_
                exact awl_nil ⟨rfl, post_put⟩⟩⟩
            , ⟨_, rfl, fun sl hd hr ho => by
                refine g_skipU rfl (hd 24 _ rfl rfl rfl) rfl ?_
                exact awl_nil ⟨rfl, post_put⟩⟩⟩
            , ⟨_, rfl, fun sl hd hr ho => by
                refine g_skipU rfl (hd 24 _ rfl rfl rfl) rfl ?_
                exact awl_nil ⟨rfl, post_put⟩⟩⟩
            , ⟨_, rfl, fun sl hd hr ho => by
                refine g_skipU rfl (hd 24 _ rfl rfl rfl) rfl ?_
                exact awl_nil ⟨rfl, post_put⟩⟩⟩
            (by rfl) ?_
          refine g_skipU rfl rfl rfl ?_
          refine g_skip rfl rfl hg63 rfl ?_
          refine g_run rfl rfl hg51 ?_
          refine r_pickT rfl hg63 rfl rfl ?_
          refine r_pickT rfl hg51 rfl rfl ?_
          refine awl_nil ?_
          refine x_then ?_
          refine awp_condT rfl ?_
          refine awp_seq ?_
          refine awp_region ?_
          refine r_assign rfl rfl ?_
          refine awl_nil ?_
          refine x_then ?_
          refine awp_ret ?_
          refine x_thenR ?_
          refine x_blockR ?_
          refine x_thenR ?_
          refine x_thenR ?_
          refine x_blockR ?_
          refine x_thenR ?_
          exact ⟨(.inl rfl), _, [], (.one (by first | exact .mk rfl rfl | exact .nil rfl)), ⟨rfl, by first | (rw [right_bad hltx hbad]; rfl) | (rw [show rightF d = false from by unfold rightF; rw [← hN, decide_eq_false hdup, Bool.and_false]]; rfl) | (rw [right_good (fun i hi => hall i (by omega)) (by rw [← hN]; exact hnd)]; rfl)⟩, (List.nil_sublist _), (by simp)⟩
        ·
          rcases Bool.eq_false_or_eq_true (y.kind == x.kind) with hg73 | hg73
          ·
            refine awp_drawS [49, 50, 51, 52, 53, 54, 55, 56, 57, 58, 59, 60, 61, 62, 63, 64, 65, 66, 67, 68, 69, 70, 71, 72, 73, 74, 75, 76, 77, 78, 79, 80, 81] [_, _, _, _, _, _, _, _, _, _, _, _, _, _, _, _, _, _, _, _, _, _, _, _, _, _, _, _, _, _, _, _, _] [] [] TF.mixed rfl rfl rfl ⟨⟨⟨⟨⟨⟨⟨⟨⟨⟨⟨⟨⟨⟨⟨⟨⟨⟨⟨⟨⟨⟨⟨⟨⟨⟨⟨⟨⟨⟨⟨⟨⟨trivial
              , ⟨_, rfl, fun sl hd hr ho => by
                  refine r_move (hr 4 _ rfl rfl rfl) rfl ?_
                  exact awl_nil ⟨rfl, post_put⟩⟩⟩
              , ⟨_, rfl, fun sl hd hr ho => by
                  refine r_cmp (hd 0 _ rfl rfl rfl) rfl rfl rfl ?_
                  exact awl_nil ⟨rfl, post_put⟩⟩⟩
              , ⟨_, rfl, fun sl hd hr ho => by
                  refine r_move (hd 1 _ rfl rfl rfl) rfl ?_
                  exact awl_nil ⟨rfl, post_put⟩⟩⟩
              , ⟨_, rfl, fun sl hd hr ho => by
                  refine g_run rfl (hd 2 _ rfl rfl rfl) hg51 ?_
                  refine r_move (hr 0 _ rfl rfl rfl) rfl ?_
                  exact awl_nil ⟨rfl, post_put⟩⟩⟩
              , ⟨_, rfl, fun sl hd hr ho => by
                  refine g_run rfl (hd 2 _ rfl rfl rfl) hg51 ?_
                  refine r_move (hr 4 _ rfl rfl rfl) rfl ?_
                  exact awl_nil ⟨rfl, post_put⟩⟩⟩
              , ⟨_, rfl, fun sl hd hr ho => by
                  refine g_run rfl (hd 2 _ rfl rfl rfl) hg51 ?_
                  refine r_ari _ (hd 4 _ rfl rfl rfl) rfl rfl (wrap_id (by first | omega | (simp; omega))) rfl ?_
                  exact awl_nil ⟨rfl, post_put⟩⟩⟩
              , ⟨_, rfl, fun sl hd hr ho => by
                  refine g_run rfl (hd 2 _ rfl rfl rfl) hg51 ?_
                  refine r_index (hd 3 _ rfl rfl rfl) rfl (hd 5 _ rfl rfl rfl) TF.sl30 TF.sz36 (by omega) (by rw [show ((k : Int) - 1).toNat = k - 1 by omega]; exact get_map hy) rfl ?_
                  exact awl_nil ⟨rfl, post_put⟩⟩⟩
              , ⟨_, rfl, fun sl hd hr ho => by
                  refine g_run rfl (hd 2 _ rfl rfl rfl) hg51 ?_
                  first | (refine r_fieldb (hd 6 _ rfl rfl rfl) TF.f36_0 TF.sz3 rfl ?_) | (refine r_fieldcp (hd 6 _ rfl rfl rfl) TF.f36_0 TF.sz3 rfl ?_)
                  exact awl_nil ⟨rfl, post_put⟩⟩⟩
              , ⟨_, rfl, fun sl hd hr ho => by
                  refine g_run rfl (hd 2 _ rfl rfl rfl) hg51 ?_
                  first | (refine r_load1b 0 (hd 7 _ rfl rfl rfl) rfl rfl TF.agg3 rfl ?_) | (refine r_load1 (hd 7 _ rfl rfl rfl) TF.agg3 rfl ?_)
                  exact awl_nil ⟨rfl, post_put⟩⟩⟩
              , ⟨_, rfl, fun sl hd hr ho => by
                  refine g_run rfl (hd 2 _ rfl rfl rfl) hg51 ?_
                  refine r_call0 hq rfl rfl (.cons (.ev (hd 8 _ rfl rfl rfl) rfl) .nil) (rrank_ok y.kind) rfl TF.en37 rfl (fun r hr => ?_)
                  obtain rfl := hr
                  exact awl_nil ⟨rfl, post_put⟩⟩⟩
              , ⟨_, rfl, fun sl hd hr ho => by
                  refine g_run rfl (hd 2 _ rfl rfl rfl) hg51 ?_
                  first | (refine r_fieldb (hr 5 _ rfl rfl rfl) TF.f36_0 TF.sz3 rfl ?_) | (refine r_fieldcp (hr 5 _ rfl rfl rfl) TF.f36_0 TF.sz3 rfl ?_)
                  exact awl_nil ⟨rfl, post_put⟩⟩⟩
              , ⟨_, rfl, fun sl hd hr ho => by
                  refine g_run rfl (hd 2 _ rfl rfl rfl) hg51 ?_
                  first | (refine r_load1b 0 (hd 10 _ rfl rfl rfl) rfl rfl TF.agg3 rfl ?_) | (refine r_load1 (hd 10 _ rfl rfl rfl) TF.agg3 rfl ?_)
                  exact awl_nil ⟨rfl, post_put⟩⟩⟩
              , ⟨_, rfl, fun sl hd hr ho => by
                  refine g_run rfl (hd 2 _ rfl rfl rfl) hg51 ?_
                  refine r_call0 hq rfl rfl (.cons (.ev (hd 11 _ rfl rfl rfl) rfl) .nil) (rrank_ok x.kind) rfl TF.en37 rfl (fun r hr => ?_)
                  obtain rfl := hr
                  exact awl_nil ⟨rfl, post_put⟩⟩⟩
              , ⟨_, rfl, fun sl hd hr ho => by
                  refine g_run rfl (hd 2 _ rfl rfl rfl) hg51 ?_
                  refine r_cmp (hd 9 _ rfl rfl rfl) (hd 12 _ rfl rfl rfl) rfl rfl ?_
                  exact awl_nil ⟨rfl, post_put⟩⟩⟩
              , ⟨_, rfl, fun sl hd hr ho => by
                  refine g_run rfl (hd 2 _ rfl rfl rfl) hg51 ?_
                  refine r_move (hd 13 _ rfl rfl rfl) rfl ?_
                  exact awl_nil ⟨rfl, post_put⟩⟩⟩
              , ⟨_, rfl, fun sl hd hr ho => by
                  refine g_run rfl (hd 14 _ rfl rfl rfl) hg63 ?_
                  refine r_move (hr 0 _ rfl rfl rfl) rfl ?_
                  exact awl_nil ⟨rfl, post_put⟩⟩⟩
              , ⟨_, rfl, fun sl hd hr ho => by
                  refine g_run rfl (hd 14 _ rfl rfl rfl) hg63 ?_
                  refine r_move (hr 4 _ rfl rfl rfl) rfl ?_
                  exact awl_nil ⟨rfl, post_put⟩⟩⟩
              , ⟨_, rfl, fun sl hd hr ho => by
                  refine g_run rfl (hd 14 _ rfl rfl rfl) hg63 ?_
                  refine r_ari _ (hd 16 _ rfl rfl rfl) rfl rfl (wrap_id (by first | omega | (simp; omega))) rfl ?_
                  exact awl_nil ⟨rfl, post_put⟩⟩⟩
              , ⟨_, rfl, fun sl hd hr ho => by
                  refine g_run rfl (hd 14 _ rfl rfl rfl) hg63 ?_
                  refine r_index (hd 15 _ rfl rfl rfl) rfl (hd 17 _ rfl rfl rfl) TF.sl30 TF.sz36 (by omega) (by rw [show ((k : Int) - 1).toNat = k - 1 by omega]; exact get_map hy) rfl ?_
                  exact awl_nil ⟨rfl, post_put⟩⟩⟩
              , ⟨_, rfl, fun sl hd hr ho => by
                  refine g_run rfl (hd 14 _ rfl rfl rfl) hg63 ?_
                  first | (refine r_fieldb (hd 18 _ rfl rfl rfl) TF.f36_0 TF.sz3 rfl ?_) | (refine r_fieldcp (hd 18 _ rfl rfl rfl) TF.f36_0 TF.sz3 rfl ?_)
                  exact awl_nil ⟨rfl, post_put⟩⟩⟩
              , ⟨_, rfl, fun sl hd hr ho => by
                  refine g_run rfl (hd 14 _ rfl rfl rfl) hg63 ?_
                  first | (refine r_load1b 0 (hd 19 _ rfl rfl rfl) rfl rfl TF.agg3 rfl ?_) | (refine r_load1 (hd 19 _ rfl rfl rfl) TF.agg3 rfl ?_)
                  exact awl_nil ⟨rfl, post_put⟩⟩⟩
              , ⟨_, rfl, fun sl hd hr ho => by
                  refine g_run rfl (hd 14 _ rfl rfl rfl) hg63 ?_
                  first | (refine r_fieldb (hr 5 _ rfl rfl rfl) TF.f36_0 TF.sz3 rfl ?_) | (refine r_fieldcp (hr 5 _ rfl rfl rfl) TF.f36_0 TF.sz3 rfl ?_)
                  exact awl_nil ⟨rfl, post_put⟩⟩⟩
              , ⟨_, rfl, fun sl hd hr ho => by
                  refine g_run rfl (hd 14 _ rfl rfl rfl) hg63 ?_
                  first | (refine r_load1b 0 (hd 21 _ rfl rfl rfl) rfl rfl TF.agg3 rfl ?_) | (refine r_load1 (hd 21 _ rfl rfl rfl) TF.agg3 rfl ?_)
                  exact awl_nil ⟨rfl, post_put⟩⟩⟩
              , ⟨_, rfl, fun sl hd hr ho => by
                  refine g_run rfl (hd 14 _ rfl rfl rfl) hg63 ?_
                  refine r_cmp (hd 20 _ rfl rfl rfl) (hd 22 _ rfl rfl rfl) rfl rfl ?_
                  exact awl_nil ⟨rfl, post_put⟩⟩⟩
              , ⟨_, rfl, fun sl hd hr ho => by
                  refine g_run rfl (hd 14 _ rfl rfl rfl) hg63 ?_
                  refine r_move (hd 23 _ rfl rfl rfl) rfl ?_
                  exact awl_nil ⟨rfl, post_put⟩⟩⟩
              , ⟨_, rfl, fun sl hd hr ho => by
                  refine g_run rfl (hd 24 _ rfl rfl rfl) hg73 ?_
                  refine r_move (hr 0 _ rfl rfl rfl) rfl ?_
                  exact awl_nil ⟨rfl, post_put⟩⟩⟩
              , ⟨_, rfl, fun sl hd hr ho => by
                  refine g_run rfl (hd 24 _ rfl rfl rfl) hg73 ?_
                  refine r_move (hr 4 _ rfl rfl rfl) rfl ?_
                  exact awl_nil ⟨rfl, post_put⟩⟩⟩
              , ⟨_, rfl, fun sl hd hr ho => by
                  refine g_run rfl (hd 24 _ rfl rfl rfl) hg73 ?_
                  refine r_ari _ (hd 26 _ rfl rfl rfl) rfl rfl (wrap_id (by first | omega | (simp; omega))) rfl ?_
                  exact awl_nil ⟨rfl, post_put⟩⟩⟩
              , ⟨_, rfl, fun sl hd hr ho => by
                  refine g_run rfl (hd 24 _ rfl rfl rfl) hg73 ?_
                  refine r_index (hd 25 _ rfl rfl rfl) rfl (hd 27 _ rfl rfl rfl) TF.sl30 TF.sz36 (by omega) (by rw [show ((k : Int) - 1).toNat = k - 1 by omega]; exact get_map hy) rfl ?_
                  exact awl_nil ⟨rfl, post_put⟩⟩⟩
              , ⟨_, rfl, fun sl hd hr ho => by
                  refine g_run rfl (hd 24 _ rfl rfl rfl) hg73 ?_
                  first | (refine r_fieldb (hd 28 _ rfl rfl rfl) TF.f36_1 TF.sz9 rfl ?_) | (refine r_fieldcp (hd 28 _ rfl rfl rfl) TF.f36_1 TF.sz9 rfl ?_)
                  exact awl_nil ⟨rfl, post_put⟩⟩⟩
              , ⟨_, rfl, fun sl hd hr ho => by
                  refine g_run rfl (hd 24 _ rfl rfl rfl) hg73 ?_
                  first | (refine r_load1b 0 (hd 29 _ rfl rfl rfl) rfl rfl TF.agg9 rfl ?_) | (refine r_load1 (hd 29 _ rfl rfl rfl) TF.agg9 rfl ?_)
                  exact awl_nil ⟨rfl, post_put⟩⟩⟩
              , ⟨_, rfl, fun sl hd hr ho => by
                  refine g_run rfl (hd 24 _ rfl rfl rfl) hg73 ?_
                  first | (refine r_fieldb (hr 5 _ rfl rfl rfl) TF.f36_1 TF.sz9 rfl ?_) | (refine r_fieldcp (hr 5 _ rfl rfl rfl) TF.f36_1 TF.sz9 rfl ?_)
                  exact awl_nil ⟨rfl, post_put⟩⟩⟩
              , ⟨_, rfl, fun sl hd hr ho => by
                  refine g_run rfl (hd 24 _ rfl rfl rfl) hg73 ?_
                  first | (refine r_load1b 0 (hd 31 _ rfl rfl rfl) rfl rfl TF.agg9 rfl ?_) | (refine r_load1 (hd 31 _ rfl rfl rfl) TF.agg9 rfl ?_)
                  exact awl_nil ⟨rfl, post_put⟩⟩⟩
              (by rfl) ?_
            refine g_run rfl rfl hg73 ?_
            refine r_str2 rfl rfl rfl rfl ?_
            refine g_run rfl rfl hg63 ?_
            refine r_pickT rfl hg73 rfl rfl ?_
            refine g_run rfl rfl hg51 ?_
            refine r_pickF rfl hg63 rfl rfl ?_
            refine r_pickT rfl hg51 rfl rfl ?_
            refine awl_nil ?_
            refine x_then ?_
            refine awp_cond rfl (fun hc2 => ?_) (fun hc2 => ?_)
            ·
              have hbad : okC d k = false := by rw [← okR_eq]; simp only [okR, hx, hy, hbx, decide_eq_true hk0, hg63, hg73, hc2]; rfl
              refine awp_seq ?_
              refine awp_region ?_
              refine r_assign rfl rfl ?_
              refine awl_nil ?_
              refine x_then ?_
              refine awp_ret ?_
              refine x_thenR ?_
              refine x_blockR ?_
              refine x_thenR ?_
              refine x_thenR ?_
              refine x_blockR ?_
              refine x_thenR ?_
              exact ⟨(.inl rfl), _, [], (.one (by first | exact .mk rfl rfl | exact .nil rfl)), ⟨rfl, by first | (rw [right_bad hltx hbad]; rfl) | (rw [show rightF d = false from by unfold rightF; rw [← hN, decide_eq_false hdup, Bool.and_false]]; rfl) | (rw [right_good (fun i hi => hall i (by omega)) (by rw [← hN]; exact hnd)]; rfl)⟩, (List.nil_sublist _), (by simp)⟩
            ·
              have hgood : okC d k = true := by rw [← okR_eq]; simp only [okR, hx, hy, hbx, decide_eq_true hk0, hg63, hg73, hc2]; rfl
              refine awp_skip ?_
              refine x_then ?_
              refine awp_seq ?_
              refine awp_region ?_
              refine r_move rfl rfl ?_
              first | (refine r_fieldb rfl TF.f36_1 TF.sz9 rfl ?_) | (refine r_fieldcp rfl TF.f36_1 TF.sz9 rfl ?_)
              first | (refine r_load1b 0 rfl rfl rfl TF.agg9 rfl ?_) | (refine r_load1 rfl TF.agg9 rfl ?_)
              refine r_lit 89 (parts := [(0, .tmp 88)]) rfl TF.sl57 TF.sz9 TF.zraw9 rfl rfl rfl rfl rfl rfl rfl ?_
              refine r_append 8 rfl (by first | exact .own _ | exact .nil) rfl (by first | exact .sl _ | exact .own _ _ | exact .nil) TF.sl57 TF.sz9 (by decide) TF.by9 TF.zlen9 (by simp [chunks] <;> omega) (by simp [chunks] <;> omega) rfl ?_
              refine r_assign rfl rfl ?_
              refine awl_nil ?_
              refine x_then ?_
              refine awp_seq ?_
              refine awp_region ?_
              first | (refine r_fieldb rfl TF.f36_0 TF.sz3 rfl ?_) | (refine r_fieldcp rfl TF.f36_0 TF.sz3 rfl ?_)
              first | (refine r_load1b 0 rfl rfl rfl TF.agg3 rfl ?_) | (refine r_load1 rfl TF.agg3 rfl ?_)
              refine r_cmp rfl rfl rfl rfl ?_
              refine awl_nil ?_
              refine x_then ?_
              refine awp_cond rfl (fun hc3 => ?_) (fun hc3 => ?_)
              ·
                have hns : namesC x = [x.name, x.to] := by simp [namesC, (eq_of_beq hc3 : x.kind = 4)]
                refine awp_region ?_
                refine r_move rfl rfl ?_
                first | (refine r_fieldb rfl TF.f36_2 TF.sz9 rfl ?_) | (refine r_fieldcp rfl TF.f36_2 TF.sz9 rfl ?_)
                first | (refine r_load1b 0 rfl rfl rfl TF.agg9 rfl ?_) | (refine r_load1 rfl TF.agg9 rfl ?_)
                refine r_lit 97 (parts := [(0, .tmp 96)]) rfl TF.sl57 TF.sz9 TF.zraw9 rfl rfl rfl rfl rfl rfl rfl ?_
                refine r_append 8 rfl (by first | exact .own _ | exact .nil) rfl (by first | exact .sl _ | exact .own _ _ | exact .nil) TF.sl57 TF.sz9 (by decide) TF.by9 TF.zlen9 (by simp [chunks] <;> omega) (by simp [chunks] <;> omega) rfl ?_
                refine r_assign rfl rfl ?_
                refine awl_nil ?_
                refine x_block ?_
                refine x_then ?_
                refine awp_region ?_
                refine r_move rfl rfl ?_
                refine r_ari _ rfl rfl rfl (wrap_id (by first | omega | (simp; omega))) rfl ?_
                refine r_assign rfl rfl ?_
                refine awl_nil ?_
                refine x_then ?_
                have hnt := allN_take hx
                refine ⟨d.length - (k + 1), ⟨119, [(0, .a (fcsA d)), (3, .own 8 1 ((allN (d.take (k + 1))).map (fun s : ByteArray => [AV.v (.string s)]))), (4, .a (.v (.int .i64 (((k + 1) : Int)))))], []⟩, ⟨rfl, (Slots.cons rfl (by first | exact .refl _ | exact .nilOwn _ _ | exact .nilSl _ | exact .ownSl _ _ _  | exact SV.le.ownEq (by first | rfl | (rw [hnt, hns, List.map_append]; simp [chunks]; done) | (rw [hnt, hns, List.map_append]; simp [chunks]; exact ⟨rfl, rfl⟩) | (rw [hnt, hns, List.map_append]; simp [chunks]; rfl)) | exact SV.le.of_eq (by first | rfl | (rw [hnt, hns, List.map_append]; simp [chunks]; done) | (rw [hnt, hns, List.map_append]; simp [chunks]; exact ⟨rfl, rfl⟩) | (rw [hnt, hns, List.map_append]; simp [chunks]; rfl))) (Slots.cons rfl (by first | exact .refl _ | exact .nilOwn _ _ | exact .nilSl _ | exact .ownSl _ _ _  | exact SV.le.ownEq (by first | rfl | (rw [hnt, hns, List.map_append]; simp [chunks]; done) | (rw [hnt, hns, List.map_append]; simp [chunks]; exact ⟨rfl, rfl⟩) | (rw [hnt, hns, List.map_append]; simp [chunks]; rfl)) | exact SV.le.of_eq (by first | rfl | (rw [hnt, hns, List.map_append]; simp [chunks]; done) | (rw [hnt, hns, List.map_append]; simp [chunks]; exact ⟨rfl, rfl⟩) | (rw [hnt, hns, List.map_append]; simp [chunks]; rfl))) (Slots.cons rfl (by first | exact .refl _ | exact .nilOwn _ _ | exact .nilSl _ | exact .ownSl _ _ _  | exact SV.le.ownEq (by first | rfl | (rw [hnt, hns, List.map_append]; simp [chunks]; done) | (rw [hnt, hns, List.map_append]; simp [chunks]; exact ⟨rfl, rfl⟩) | (rw [hnt, hns, List.map_append]; simp [chunks]; rfl)) | exact SV.le.of_eq (by first | rfl | (rw [hnt, hns, List.map_append]; simp [chunks]; done) | (rw [hnt, hns, List.map_append]; simp [chunks]; exact ⟨rfl, rfl⟩) | (rw [hnt, hns, List.map_append]; simp [chunks]; rfl))) Slots.nil))), (by first | exact List.Sublist.refl _ | exact .cons_cons _ (.cons _ (.refl _)) | exact List.nil_sublist _ | exact .cons _ (.refl _) | exact .cons _ (.cons _ (.refl _)) | exact .cons _ (.cons _ (.cons _ (.refl _))) | exact .cons _ (.cons _ (.cons _ (.cons _ (.refl _)))) | exact .cons_cons _ (List.nil_sublist _))⟩, (by omega), ⟨k + 1, rfl, rfl, (by omega), (fun i hi => by rcases Nat.lt_succ_iff_lt_or_eq.1 hi with h | rfl; exact hall i h; exact hgood), (by rw [hnt, List.length_append, hns]; simp; omega)⟩⟩
              ·
                have hns : namesC x = [x.name] := by simp [namesC, (by simpa using hc3 : ¬ x.kind = 4)]
                refine awp_skip ?_
                refine x_block ?_
                refine x_then ?_
                refine awp_region ?_
                refine r_move rfl rfl ?_
                refine r_ari _ rfl rfl rfl (wrap_id (by first | omega | (simp; omega))) rfl ?_
                refine r_assign rfl rfl ?_
                refine awl_nil ?_
                refine x_then ?_
                have hnt := allN_take hx
                refine ⟨d.length - (k + 1), ⟨119, [(0, .a (fcsA d)), (3, .own 8 1 ((allN (d.take (k + 1))).map (fun s : ByteArray => [AV.v (.string s)]))), (4, .a (.v (.int .i64 (((k + 1) : Int)))))], []⟩, ⟨rfl, (Slots.cons rfl (by first | exact .refl _ | exact .nilOwn _ _ | exact .nilSl _ | exact .ownSl _ _ _  | exact SV.le.ownEq (by first | rfl | (rw [hnt, hns, List.map_append]; simp [chunks]; done) | (rw [hnt, hns, List.map_append]; simp [chunks]; exact ⟨rfl, rfl⟩) | (rw [hnt, hns, List.map_append]; simp [chunks]; rfl)) | exact SV.le.of_eq (by first | rfl | (rw [hnt, hns, List.map_append]; simp [chunks]; done) | (rw [hnt, hns, List.map_append]; simp [chunks]; exact ⟨rfl, rfl⟩) | (rw [hnt, hns, List.map_append]; simp [chunks]; rfl))) (Slots.cons rfl (by first | exact .refl _ | exact .nilOwn _ _ | exact .nilSl _ | exact .ownSl _ _ _  | exact SV.le.ownEq (by first | rfl | (rw [hnt, hns, List.map_append]; simp [chunks]; done) | (rw [hnt, hns, List.map_append]; simp [chunks]; exact ⟨rfl, rfl⟩) | (rw [hnt, hns, List.map_append]; simp [chunks]; rfl)) | exact SV.le.of_eq (by first | rfl | (rw [hnt, hns, List.map_append]; simp [chunks]; done) | (rw [hnt, hns, List.map_append]; simp [chunks]; exact ⟨rfl, rfl⟩) | (rw [hnt, hns, List.map_append]; simp [chunks]; rfl))) (Slots.cons rfl (by first | exact .refl _ | exact .nilOwn _ _ | exact .nilSl _ | exact .ownSl _ _ _  | exact SV.le.ownEq (by first | rfl | (rw [hnt, hns, List.map_append]; simp [chunks]; done) | (rw [hnt, hns, List.map_append]; simp [chunks]; exact ⟨rfl, rfl⟩) | (rw [hnt, hns, List.map_append]; simp [chunks]; rfl)) | exact SV.le.of_eq (by first | rfl | (rw [hnt, hns, List.map_append]; simp [chunks]; done) | (rw [hnt, hns, List.map_append]; simp [chunks]; exact ⟨rfl, rfl⟩) | (rw [hnt, hns, List.map_append]; simp [chunks]; rfl))) Slots.nil))), (by first | exact List.Sublist.refl _ | exact .cons_cons _ (.cons _ (.refl _)) | exact List.nil_sublist _ | exact .cons _ (.refl _) | exact .cons _ (.cons _ (.refl _)) | exact .cons _ (.cons _ (.cons _ (.refl _))) | exact .cons _ (.cons _ (.cons _ (.cons _ (.refl _)))) | exact .cons_cons _ (List.nil_sublist _))⟩, (by omega), ⟨k + 1, rfl, rfl, (by omega), (fun i hi => by rcases Nat.lt_succ_iff_lt_or_eq.1 hi with h | rfl; exact hall i h; exact hgood), (by rw [hnt, List.length_append, hns]; simp; omega)⟩⟩
          ·
            have hgood : okC d k = true := by rw [← okR_eq]; simp only [okR, hx, hy, hbx, decide_eq_true hk0, hg63, hg73]; rfl
            refine awp_drawS [49, 50, 51, 52, 53, 54, 55, 56, 57, 58, 59, 60, 61, 62, 63, 64, 65, 66, 67, 68, 69, 70, 71, 72, 73, 74, 75, 76, 77, 78, 79, 80, 81] [_, _, _, _, _, _, _, _, _, _, _, _, _, _, _, _, _, _, _, _, _, _, _, _, _, _, _, _, _, _, _, _, _] [] [] TF.mixed rfl rfl rfl ⟨⟨⟨⟨⟨⟨⟨⟨⟨⟨⟨⟨⟨⟨⟨⟨⟨⟨⟨⟨⟨⟨⟨⟨⟨⟨⟨⟨⟨⟨⟨⟨⟨trivial
              , ⟨_, rfl, fun sl hd hr ho => by
                  refine r_move (hr 4 _ rfl rfl rfl) rfl ?_
                  exact awl_nil ⟨rfl, post_put⟩⟩⟩
              , ⟨_, rfl, fun sl hd hr ho => by
                  refine r_cmp (hd 0 _ rfl rfl rfl) rfl rfl rfl ?_
                  exact awl_nil ⟨rfl, post_put⟩⟩⟩
              , ⟨_, rfl, fun sl hd hr ho => by
                  refine r_move (hd 1 _ rfl rfl rfl) rfl ?_
                  exact awl_nil ⟨rfl, post_put⟩⟩⟩
              , ⟨_, rfl, fun sl hd hr ho => by
                  refine g_run rfl (hd 2 _ rfl rfl rfl) hg51 ?_
                  refine r_move (hr 0 _ rfl rfl rfl) rfl ?_
                  exact awl_nil ⟨rfl, post_put⟩⟩⟩
              , ⟨_, rfl, fun sl hd hr ho => by
                  refine g_run rfl (hd 2 _ rfl rfl rfl) hg51 ?_
                  refine r_move (hr 4 _ rfl rfl rfl) rfl ?_
                  exact awl_nil ⟨rfl, post_put⟩⟩⟩
              , ⟨_, rfl, fun sl hd hr ho => by
                  refine g_run rfl (hd 2 _ rfl rfl rfl) hg51 ?_
                  refine r_ari _ (hd 4 _ rfl rfl rfl) rfl rfl (wrap_id (by first | omega | (simp; omega))) rfl ?_
                  exact awl_nil ⟨rfl, post_put⟩⟩⟩
              , ⟨_, rfl, fun sl hd hr ho => by
                  refine g_run rfl (hd 2 _ rfl rfl rfl) hg51 ?_
                  refine r_index (hd 3 _ rfl rfl rfl) rfl (hd 5 _ rfl rfl rfl) TF.sl30 TF.sz36 (by omega) (by rw [show ((k : Int) - 1).toNat = k - 1 by omega]; exact get_map hy) rfl ?_
                  exact awl_nil ⟨rfl, post_put⟩⟩⟩
              , ⟨_, rfl, fun sl hd hr ho => by
                  refine g_run rfl (hd 2 _ rfl rfl rfl) hg51 ?_
                  first | (refine r_fieldb (hd 6 _ rfl rfl rfl) TF.f36_0 TF.sz3 rfl ?_) | (refine r_fieldcp (hd 6 _ rfl rfl rfl) TF.f36_0 TF.sz3 rfl ?_)
                  exact awl_nil ⟨rfl, post_put⟩⟩⟩
              , ⟨_, rfl, fun sl hd hr ho => by
                  refine g_run rfl (hd 2 _ rfl rfl rfl) hg51 ?_
                  first | (refine r_load1b 0 (hd 7 _ rfl rfl rfl) rfl rfl TF.agg3 rfl ?_) | (refine r_load1 (hd 7 _ rfl rfl rfl) TF.agg3 rfl ?_)
                  exact awl_nil ⟨rfl, post_put⟩⟩⟩
              , ⟨_, rfl, fun sl hd hr ho => by
                  refine g_run rfl (hd 2 _ rfl rfl rfl) hg51 ?_
                  refine r_call0 hq rfl rfl (.cons (.ev (hd 8 _ rfl rfl rfl) rfl) .nil) (rrank_ok y.kind) rfl TF.en37 rfl (fun r hr => ?_)
                  obtain rfl := hr
                  exact awl_nil ⟨rfl, post_put⟩⟩⟩
              , ⟨_, rfl, fun sl hd hr ho => by
                  refine g_run rfl (hd 2 _ rfl rfl rfl) hg51 ?_
                  first | (refine r_fieldb (hr 5 _ rfl rfl rfl) TF.f36_0 TF.sz3 rfl ?_) | (refine r_fieldcp (hr 5 _ rfl rfl rfl) TF.f36_0 TF.sz3 rfl ?_)
                  exact awl_nil ⟨rfl, post_put⟩⟩⟩
              , ⟨_, rfl, fun sl hd hr ho => by
                  refine g_run rfl (hd 2 _ rfl rfl rfl) hg51 ?_
                  first | (refine r_load1b 0 (hd 10 _ rfl rfl rfl) rfl rfl TF.agg3 rfl ?_) | (refine r_load1 (hd 10 _ rfl rfl rfl) TF.agg3 rfl ?_)
                  exact awl_nil ⟨rfl, post_put⟩⟩⟩
              , ⟨_, rfl, fun sl hd hr ho => by
                  refine g_run rfl (hd 2 _ rfl rfl rfl) hg51 ?_
                  refine r_call0 hq rfl rfl (.cons (.ev (hd 11 _ rfl rfl rfl) rfl) .nil) (rrank_ok x.kind) rfl TF.en37 rfl (fun r hr => ?_)
                  obtain rfl := hr
                  exact awl_nil ⟨rfl, post_put⟩⟩⟩
              , ⟨_, rfl, fun sl hd hr ho => by
                  refine g_run rfl (hd 2 _ rfl rfl rfl) hg51 ?_
                  refine r_cmp (hd 9 _ rfl rfl rfl) (hd 12 _ rfl rfl rfl) rfl rfl ?_
                  exact awl_nil ⟨rfl, post_put⟩⟩⟩
              , ⟨_, rfl, fun sl hd hr ho => by
                  refine g_run rfl (hd 2 _ rfl rfl rfl) hg51 ?_
                  refine r_move (hd 13 _ rfl rfl rfl) rfl ?_
                  exact awl_nil ⟨rfl, post_put⟩⟩⟩
              , ⟨_, rfl, fun sl hd hr ho => by
                  refine g_run rfl (hd 14 _ rfl rfl rfl) hg63 ?_
                  refine r_move (hr 0 _ rfl rfl rfl) rfl ?_
                  exact awl_nil ⟨rfl, post_put⟩⟩⟩
              , ⟨_, rfl, fun sl hd hr ho => by
                  refine g_run rfl (hd 14 _ rfl rfl rfl) hg63 ?_
                  refine r_move (hr 4 _ rfl rfl rfl) rfl ?_
                  exact awl_nil ⟨rfl, post_put⟩⟩⟩
              , ⟨_, rfl, fun sl hd hr ho => by
                  refine g_run rfl (hd 14 _ rfl rfl rfl) hg63 ?_
                  refine r_ari _ (hd 16 _ rfl rfl rfl) rfl rfl (wrap_id (by first | omega | (simp; omega))) rfl ?_
                  exact awl_nil ⟨rfl, post_put⟩⟩⟩
              , ⟨_, rfl, fun sl hd hr ho => by
                  refine g_run rfl (hd 14 _ rfl rfl rfl) hg63 ?_
                  refine r_index (hd 15 _ rfl rfl rfl) rfl (hd 17 _ rfl rfl rfl) TF.sl30 TF.sz36 (by omega) (by rw [show ((k : Int) - 1).toNat = k - 1 by omega]; exact get_map hy) rfl ?_
                  exact awl_nil ⟨rfl, post_put⟩⟩⟩
              , ⟨_, rfl, fun sl hd hr ho => by
                  refine g_run rfl (hd 14 _ rfl rfl rfl) hg63 ?_
                  first | (refine r_fieldb (hd 18 _ rfl rfl rfl) TF.f36_0 TF.sz3 rfl ?_) | (refine r_fieldcp (hd 18 _ rfl rfl rfl) TF.f36_0 TF.sz3 rfl ?_)
                  exact awl_nil ⟨rfl, post_put⟩⟩⟩
              , ⟨_, rfl, fun sl hd hr ho => by
                  refine g_run rfl (hd 14 _ rfl rfl rfl) hg63 ?_
                  first | (refine r_load1b 0 (hd 19 _ rfl rfl rfl) rfl rfl TF.agg3 rfl ?_) | (refine r_load1 (hd 19 _ rfl rfl rfl) TF.agg3 rfl ?_)
                  exact awl_nil ⟨rfl, post_put⟩⟩⟩
              , ⟨_, rfl, fun sl hd hr ho => by
                  refine g_run rfl (hd 14 _ rfl rfl rfl) hg63 ?_
                  first | (refine r_fieldb (hr 5 _ rfl rfl rfl) TF.f36_0 TF.sz3 rfl ?_) | (refine r_fieldcp (hr 5 _ rfl rfl rfl) TF.f36_0 TF.sz3 rfl ?_)
                  exact awl_nil ⟨rfl, post_put⟩⟩⟩
              , ⟨_, rfl, fun sl hd hr ho => by
                  refine g_run rfl (hd 14 _ rfl rfl rfl) hg63 ?_
                  first | (refine r_load1b 0 (hd 21 _ rfl rfl rfl) rfl rfl TF.agg3 rfl ?_) | (refine r_load1 (hd 21 _ rfl rfl rfl) TF.agg3 rfl ?_)
                  exact awl_nil ⟨rfl, post_put⟩⟩⟩
              , ⟨_, rfl, fun sl hd hr ho => by
                  refine g_run rfl (hd 14 _ rfl rfl rfl) hg63 ?_
                  refine r_cmp (hd 20 _ rfl rfl rfl) (hd 22 _ rfl rfl rfl) rfl rfl ?_
                  exact awl_nil ⟨rfl, post_put⟩⟩⟩
              , ⟨_, rfl, fun sl hd hr ho => by
                  refine g_run rfl (hd 14 _ rfl rfl rfl) hg63 ?_
                  refine r_move (hd 23 _ rfl rfl rfl) rfl ?_
                  exact awl_nil ⟨rfl, post_put⟩⟩⟩
              , ⟨_, rfl, fun sl hd hr ho => by
                  refine g_skip rfl (hd 24 _ rfl rfl rfl) hg73 rfl ?_
                  exact awl_nil ⟨rfl, post_put⟩⟩⟩
              , ⟨_, rfl, fun sl hd hr ho => by
                  refine g_skip rfl (hd 24 _ rfl rfl rfl) hg73 rfl ?_
                  exact awl_nil ⟨rfl, post_put⟩⟩⟩
              , ⟨_, rfl, fun sl hd hr ho => by
                  refine g_skip rfl (hd 24 _ rfl rfl rfl) hg73 rfl ?_
                  exact awl_nil ⟨rfl, post_put⟩⟩⟩
              , ⟨_, rfl, fun sl hd hr ho => by
                  refine g_skip rfl (hd 24 _ rfl rfl rfl) hg73 rfl ?_
                  exact awl_nil ⟨rfl, post_put⟩⟩⟩
              , ⟨_, rfl, fun sl hd hr ho => by
                  refine g_skip rfl (hd 24 _ rfl rfl rfl) hg73 rfl ?_
                  exact awl_nil ⟨rfl, post_put⟩⟩⟩
              , ⟨_, rfl, fun sl hd hr ho => by
                  refine g_skip rfl (hd 24 _ rfl rfl rfl) hg73 rfl ?_
                  exact awl_nil ⟨rfl, post_put⟩⟩⟩
              , ⟨_, rfl, fun sl hd hr ho => by
                  refine g_skip rfl (hd 24 _ rfl rfl rfl) hg73 rfl ?_
                  exact awl_nil ⟨rfl, post_put⟩⟩⟩
              , ⟨_, rfl, fun sl hd hr ho => by
                  refine g_skip rfl (hd 24 _ rfl rfl rfl) hg73 rfl ?_
                  exact awl_nil ⟨rfl, post_put⟩⟩⟩
              (by rfl) ?_
            refine g_skip rfl rfl hg73 rfl ?_
            refine g_run rfl rfl hg63 ?_
            refine r_pickF rfl hg73 rfl rfl ?_
            refine g_run rfl rfl hg51 ?_
            refine r_pickF rfl hg63 rfl rfl ?_
            refine r_pickT rfl hg51 rfl rfl ?_
            refine awl_nil ?_
            refine x_then ?_
            refine awp_condF rfl ?_
            refine awp_skip ?_
            refine x_then ?_
            refine awp_seq ?_
            refine awp_region ?_
            refine r_move rfl rfl ?_
            first | (refine r_fieldb rfl TF.f36_1 TF.sz9 rfl ?_) | (refine r_fieldcp rfl TF.f36_1 TF.sz9 rfl ?_)
            first | (refine r_load1b 0 rfl rfl rfl TF.agg9 rfl ?_) | (refine r_load1 rfl TF.agg9 rfl ?_)
            refine r_lit 89 (parts := [(0, .tmp 88)]) rfl TF.sl57 TF.sz9 TF.zraw9 rfl rfl rfl rfl rfl rfl rfl ?_
            refine r_append 8 rfl (by first | exact .own _ | exact .nil) rfl (by first | exact .sl _ | exact .own _ _ | exact .nil) TF.sl57 TF.sz9 (by decide) TF.by9 TF.zlen9 (by simp [chunks] <;> omega) (by simp [chunks] <;> omega) rfl ?_
            refine r_assign rfl rfl ?_
            refine awl_nil ?_
            refine x_then ?_
            refine awp_seq ?_
            refine awp_region ?_
            first | (refine r_fieldb rfl TF.f36_0 TF.sz3 rfl ?_) | (refine r_fieldcp rfl TF.f36_0 TF.sz3 rfl ?_)
            first | (refine r_load1b 0 rfl rfl rfl TF.agg3 rfl ?_) | (refine r_load1 rfl TF.agg3 rfl ?_)
            refine r_cmp rfl rfl rfl rfl ?_
            refine awl_nil ?_
            refine x_then ?_
            refine awp_cond rfl (fun hc3 => ?_) (fun hc3 => ?_)
            ·
              have hns : namesC x = [x.name, x.to] := by simp [namesC, (eq_of_beq hc3 : x.kind = 4)]
              refine awp_region ?_
              refine r_move rfl rfl ?_
              first | (refine r_fieldb rfl TF.f36_2 TF.sz9 rfl ?_) | (refine r_fieldcp rfl TF.f36_2 TF.sz9 rfl ?_)
              first | (refine r_load1b 0 rfl rfl rfl TF.agg9 rfl ?_) | (refine r_load1 rfl TF.agg9 rfl ?_)
              refine r_lit 97 (parts := [(0, .tmp 96)]) rfl TF.sl57 TF.sz9 TF.zraw9 rfl rfl rfl rfl rfl rfl rfl ?_
              refine r_append 8 rfl (by first | exact .own _ | exact .nil) rfl (by first | exact .sl _ | exact .own _ _ | exact .nil) TF.sl57 TF.sz9 (by decide) TF.by9 TF.zlen9 (by simp [chunks] <;> omega) (by simp [chunks] <;> omega) rfl ?_
              refine r_assign rfl rfl ?_
              refine awl_nil ?_
              refine x_block ?_
              refine x_then ?_
              refine awp_region ?_
              refine r_move rfl rfl ?_
              refine r_ari _ rfl rfl rfl (wrap_id (by first | omega | (simp; omega))) rfl ?_
              refine r_assign rfl rfl ?_
              refine awl_nil ?_
              refine x_then ?_
              have hnt := allN_take hx
              refine ⟨d.length - (k + 1), ⟨119, [(0, .a (fcsA d)), (3, .own 8 1 ((allN (d.take (k + 1))).map (fun s : ByteArray => [AV.v (.string s)]))), (4, .a (.v (.int .i64 (((k + 1) : Int)))))], []⟩, ⟨rfl, (Slots.cons rfl (by first | exact .refl _ | exact .nilOwn _ _ | exact .nilSl _ | exact .ownSl _ _ _  | exact SV.le.ownEq (by first | rfl | (rw [hnt, hns, List.map_append]; simp [chunks]; done) | (rw [hnt, hns, List.map_append]; simp [chunks]; exact ⟨rfl, rfl⟩) | (rw [hnt, hns, List.map_append]; simp [chunks]; rfl)) | exact SV.le.of_eq (by first | rfl | (rw [hnt, hns, List.map_append]; simp [chunks]; done) | (rw [hnt, hns, List.map_append]; simp [chunks]; exact ⟨rfl, rfl⟩) | (rw [hnt, hns, List.map_append]; simp [chunks]; rfl))) (Slots.cons rfl (by first | exact .refl _ | exact .nilOwn _ _ | exact .nilSl _ | exact .ownSl _ _ _  | exact SV.le.ownEq (by first | rfl | (rw [hnt, hns, List.map_append]; simp [chunks]; done) | (rw [hnt, hns, List.map_append]; simp [chunks]; exact ⟨rfl, rfl⟩) | (rw [hnt, hns, List.map_append]; simp [chunks]; rfl)) | exact SV.le.of_eq (by first | rfl | (rw [hnt, hns, List.map_append]; simp [chunks]; done) | (rw [hnt, hns, List.map_append]; simp [chunks]; exact ⟨rfl, rfl⟩) | (rw [hnt, hns, List.map_append]; simp [chunks]; rfl))) (Slots.cons rfl (by first | exact .refl _ | exact .nilOwn _ _ | exact .nilSl _ | exact .ownSl _ _ _  | exact SV.le.ownEq (by first | rfl | (rw [hnt, hns, List.map_append]; simp [chunks]; done) | (rw [hnt, hns, List.map_append]; simp [chunks]; exact ⟨rfl, rfl⟩) | (rw [hnt, hns, List.map_append]; simp [chunks]; rfl)) | exact SV.le.of_eq (by first | rfl | (rw [hnt, hns, List.map_append]; simp [chunks]; done) | (rw [hnt, hns, List.map_append]; simp [chunks]; exact ⟨rfl, rfl⟩) | (rw [hnt, hns, List.map_append]; simp [chunks]; rfl))) Slots.nil))), (by first | exact List.Sublist.refl _ | exact .cons_cons _ (.cons _ (.refl _)) | exact List.nil_sublist _ | exact .cons _ (.refl _) | exact .cons _ (.cons _ (.refl _)) | exact .cons _ (.cons _ (.cons _ (.refl _))) | exact .cons _ (.cons _ (.cons _ (.cons _ (.refl _)))) | exact .cons_cons _ (List.nil_sublist _))⟩, (by omega), ⟨k + 1, rfl, rfl, (by omega), (fun i hi => by rcases Nat.lt_succ_iff_lt_or_eq.1 hi with h | rfl; exact hall i h; exact hgood), (by rw [hnt, List.length_append, hns]; simp; omega)⟩⟩
            ·
              have hns : namesC x = [x.name] := by simp [namesC, (by simpa using hc3 : ¬ x.kind = 4)]
              refine awp_skip ?_
              refine x_block ?_
              refine x_then ?_
              refine awp_region ?_
              refine r_move rfl rfl ?_
              refine r_ari _ rfl rfl rfl (wrap_id (by first | omega | (simp; omega))) rfl ?_
              refine r_assign rfl rfl ?_
              refine awl_nil ?_
              refine x_then ?_
              have hnt := allN_take hx
              refine ⟨d.length - (k + 1), ⟨119, [(0, .a (fcsA d)), (3, .own 8 1 ((allN (d.take (k + 1))).map (fun s : ByteArray => [AV.v (.string s)]))), (4, .a (.v (.int .i64 (((k + 1) : Int)))))], []⟩, ⟨rfl, (Slots.cons rfl (by first | exact .refl _ | exact .nilOwn _ _ | exact .nilSl _ | exact .ownSl _ _ _  | exact SV.le.ownEq (by first | rfl | (rw [hnt, hns, List.map_append]; simp [chunks]; done) | (rw [hnt, hns, List.map_append]; simp [chunks]; exact ⟨rfl, rfl⟩) | (rw [hnt, hns, List.map_append]; simp [chunks]; rfl)) | exact SV.le.of_eq (by first | rfl | (rw [hnt, hns, List.map_append]; simp [chunks]; done) | (rw [hnt, hns, List.map_append]; simp [chunks]; exact ⟨rfl, rfl⟩) | (rw [hnt, hns, List.map_append]; simp [chunks]; rfl))) (Slots.cons rfl (by first | exact .refl _ | exact .nilOwn _ _ | exact .nilSl _ | exact .ownSl _ _ _  | exact SV.le.ownEq (by first | rfl | (rw [hnt, hns, List.map_append]; simp [chunks]; done) | (rw [hnt, hns, List.map_append]; simp [chunks]; exact ⟨rfl, rfl⟩) | (rw [hnt, hns, List.map_append]; simp [chunks]; rfl)) | exact SV.le.of_eq (by first | rfl | (rw [hnt, hns, List.map_append]; simp [chunks]; done) | (rw [hnt, hns, List.map_append]; simp [chunks]; exact ⟨rfl, rfl⟩) | (rw [hnt, hns, List.map_append]; simp [chunks]; rfl))) (Slots.cons rfl (by first | exact .refl _ | exact .nilOwn _ _ | exact .nilSl _ | exact .ownSl _ _ _  | exact SV.le.ownEq (by first | rfl | (rw [hnt, hns, List.map_append]; simp [chunks]; done) | (rw [hnt, hns, List.map_append]; simp [chunks]; exact ⟨rfl, rfl⟩) | (rw [hnt, hns, List.map_append]; simp [chunks]; rfl)) | exact SV.le.of_eq (by first | rfl | (rw [hnt, hns, List.map_append]; simp [chunks]; done) | (rw [hnt, hns, List.map_append]; simp [chunks]; exact ⟨rfl, rfl⟩) | (rw [hnt, hns, List.map_append]; simp [chunks]; rfl))) Slots.nil))), (by first | exact List.Sublist.refl _ | exact .cons_cons _ (.cons _ (.refl _)) | exact List.nil_sublist _ | exact .cons _ (.refl _) | exact .cons _ (.cons _ (.refl _)) | exact .cons _ (.cons _ (.cons _ (.refl _))) | exact .cons _ (.cons _ (.cons _ (.cons _ (.refl _)))) | exact .cons_cons _ (List.nil_sublist _))⟩, (by omega), ⟨k + 1, rfl, rfl, (by omega), (fun i hi => by rcases Nat.lt_succ_iff_lt_or_eq.1 hi with h | rfl; exact hall i h; exact hgood), (by rw [hnt, List.length_append, hns]; simp; omega)⟩⟩
      ·
        have hk0 : ¬ 0 < k := by have := of_decide_eq_false hg51; omega
        have hgood : okC d k = true := by rw [← okR_eq]; simp only [okR, hx, hbx, decide_eq_false hk0]; rfl
        refine awp_drawS [49, 50, 51, 52, 53, 54, 55, 56, 57, 58, 59, 60, 61, 62, 63, 64, 65, 66, 67, 68, 69, 70, 71, 72, 73, 74, 75, 76, 77, 78, 79, 80, 81] [_, _, _, _, _, _, _, _, _, _, _, _, _, _, _, _, _, _, _, _, _, _, _, _, _, _, _, _, _, _, _, _, _] [] [] TF.mixed rfl rfl rfl ⟨⟨⟨⟨⟨⟨⟨⟨⟨⟨⟨⟨⟨⟨⟨⟨⟨⟨⟨⟨⟨⟨⟨⟨⟨⟨⟨⟨⟨⟨⟨⟨⟨trivial
          , ⟨_, rfl, fun sl hd hr ho => by
              refine r_move (hr 4 _ rfl rfl rfl) rfl ?_
              exact awl_nil ⟨rfl, post_put⟩⟩⟩
          , ⟨_, rfl, fun sl hd hr ho => by
              refine r_cmp (hd 0 _ rfl rfl rfl) rfl rfl rfl ?_
              exact awl_nil ⟨rfl, post_put⟩⟩⟩
          , ⟨_, rfl, fun sl hd hr ho => by
              refine r_move (hd 1 _ rfl rfl rfl) rfl ?_
              exact awl_nil ⟨rfl, post_put⟩⟩⟩
          , ⟨_, rfl, fun sl hd hr ho => by
              refine g_skip rfl (hd 2 _ rfl rfl rfl) hg51 rfl ?_
              exact awl_nil ⟨rfl, post_put⟩⟩⟩
          , ⟨_, rfl, fun sl hd hr ho => by
              refine g_skip rfl (hd 2 _ rfl rfl rfl) hg51 rfl ?_
              exact awl_nil ⟨rfl, post_put⟩⟩⟩
          , ⟨_, rfl, fun sl hd hr ho => by
              refine g_skip rfl (hd 2 _ rfl rfl rfl) hg51 rfl ?_
              exact awl_nil ⟨rfl, post_put⟩⟩⟩
          , ⟨_, rfl, fun sl hd hr ho => by
              refine g_skip rfl (hd 2 _ rfl rfl rfl) hg51 rfl ?_
              exact awl_nil ⟨rfl, post_put⟩⟩⟩
          , ⟨_, rfl, fun sl hd hr ho => by
              refine g_skip rfl (hd 2 _ rfl rfl rfl) hg51 rfl ?_
              exact awl_nil ⟨rfl, post_put⟩⟩⟩
          , ⟨_, rfl, fun sl hd hr ho => by
              refine g_skip rfl (hd 2 _ rfl rfl rfl) hg51 rfl ?_
              exact awl_nil ⟨rfl, post_put⟩⟩⟩
          , ⟨_, rfl, fun sl hd hr ho => by
              refine g_skip rfl (hd 2 _ rfl rfl rfl) hg51 rfl ?_
              exact awl_nil ⟨rfl, post_put⟩⟩⟩
          , ⟨_, rfl, fun sl hd hr ho => by
              refine g_skip rfl (hd 2 _ rfl rfl rfl) hg51 rfl ?_
              exact awl_nil ⟨rfl, post_put⟩⟩⟩
          , ⟨_, rfl, fun sl hd hr ho => by
              refine g_skip rfl (hd 2 _ rfl rfl rfl) hg51 rfl ?_
              exact awl_nil ⟨rfl, post_put⟩⟩⟩
          , ⟨_, rfl, fun sl hd hr ho => by
              refine g_skip rfl (hd 2 _ rfl rfl rfl) hg51 rfl ?_
              exact awl_nil ⟨rfl, post_put⟩⟩⟩
          , ⟨_, rfl, fun sl hd hr ho => by
              refine g_skip rfl (hd 2 _ rfl rfl rfl) hg51 rfl ?_
              exact awl_nil ⟨rfl, post_put⟩⟩⟩
          , ⟨_, rfl, fun sl hd hr ho => by
              refine g_skip rfl (hd 2 _ rfl rfl rfl) hg51 rfl ?_
              exact awl_nil ⟨rfl, post_put⟩⟩⟩
          , ⟨_, rfl, fun sl hd hr ho => by
              refine g_skipU rfl (hd 14 _ rfl rfl rfl) rfl ?_
              exact awl_nil ⟨rfl, post_put⟩⟩⟩
          , ⟨_, rfl, fun sl hd hr ho => by
              refine g_skipU rfl (hd 14 _ rfl rfl rfl) rfl ?_
              exact awl_nil ⟨rfl, post_put⟩⟩⟩
          , ⟨_, rfl, fun sl hd hr ho => by
              refine g_skipU rfl (hd 14 _ rfl rfl rfl) rfl ?_
              exact awl_nil ⟨rfl, post_put⟩⟩⟩
          , ⟨_, rfl, fun sl hd hr ho => by
              refine g_skipU rfl (hd 14 _ rfl rfl rfl) rfl ?_
              exact awl_nil ⟨rfl, post_put⟩⟩⟩
          , ⟨_, rfl, fun sl hd hr ho => by
              refine g_skipU rfl (hd 14 _ rfl rfl rfl) rfl ?_
              exact awl_nil ⟨rfl, post_put⟩⟩⟩
          , ⟨_, rfl, fun sl hd hr ho => by
              refine g_skipU rfl (hd 14 _ rfl rfl rfl) rfl ?_
              exact awl_nil ⟨rfl, post_put⟩⟩⟩
          , ⟨_, rfl, fun sl hd hr ho => by
              refine g_skipU rfl (hd 14 _ rfl rfl rfl) rfl ?_
              exact awl_nil ⟨rfl, post_put⟩⟩⟩
          , ⟨_, rfl, fun sl hd hr ho => by
              refine g_skipU rfl (hd 14 _ rfl rfl rfl) rfl ?_
              exact awl_nil ⟨rfl, post_put⟩⟩⟩
          , ⟨_, rfl, fun sl hd hr ho => by
              refine g_skipU rfl (hd 14 _ rfl rfl rfl) rfl ?_
              exact awl_nil ⟨rfl, post_put⟩⟩⟩
          , ⟨_, rfl, fun sl hd hr ho => by
              refine g_skipU rfl (hd 14 _ rfl rfl rfl) rfl ?_
              exact awl_nil ⟨rfl, post_put⟩⟩⟩
          , ⟨_, rfl, fun sl hd hr ho => by
              refine g_skipU rfl (hd 24 _ rfl rfl rfl) rfl ?_
              exact awl_nil ⟨rfl, post_put⟩⟩⟩
          , ⟨_, rfl, fun sl hd hr ho => by
              refine g_skipU rfl (hd 24 _ rfl rfl rfl) rfl ?_
              exact awl_nil ⟨rfl, post_put⟩⟩⟩
          , ⟨_, rfl, fun sl hd hr ho => by
              refine g_skipU rfl (hd 24 _ rfl rfl rfl) rfl ?_
              exact awl_nil ⟨rfl, post_put⟩⟩⟩
          , ⟨_, rfl, fun sl hd hr ho => by
              refine g_skipU rfl (hd 24 _ rfl rfl rfl) rfl ?_
              exact awl_nil ⟨rfl, post_put⟩⟩⟩
          , ⟨_, rfl, fun sl hd hr ho => by
              refine g_skipU rfl (hd 24 _ rfl rfl rfl) rfl ?_
              exact awl_nil ⟨rfl, post_put⟩⟩⟩
          , ⟨_, rfl, fun sl hd hr ho => by
              refine g_skipU rfl (hd 24 _ rfl rfl rfl) rfl ?_
              exact awl_nil ⟨rfl, post_put⟩⟩⟩
          , ⟨_, rfl, fun sl hd hr ho => by
              refine g_skipU rfl (hd 24 _ rfl rfl rfl) rfl ?_
              exact awl_nil ⟨rfl, post_put⟩⟩⟩
          , ⟨_, rfl, fun sl hd hr ho => by
              refine g_skipU rfl (hd 24 _ rfl rfl rfl) rfl ?_
              exact awl_nil ⟨rfl, post_put⟩⟩⟩
          (by rfl) ?_
        refine g_skipU rfl rfl rfl ?_
        refine g_skipU rfl rfl rfl ?_
        refine g_skip rfl rfl hg51 rfl ?_
        refine r_pickF rfl hg51 rfl rfl ?_
        refine awl_nil ?_
        refine x_then ?_
        refine awp_condF rfl ?_
        refine awp_skip ?_
        refine x_then ?_
        refine awp_seq ?_
        refine awp_region ?_
        refine r_move rfl rfl ?_
        first | (refine r_fieldb rfl TF.f36_1 TF.sz9 rfl ?_) | (refine r_fieldcp rfl TF.f36_1 TF.sz9 rfl ?_)
        first | (refine r_load1b 0 rfl rfl rfl TF.agg9 rfl ?_) | (refine r_load1 rfl TF.agg9 rfl ?_)
        refine r_lit 89 (parts := [(0, .tmp 88)]) rfl TF.sl57 TF.sz9 TF.zraw9 rfl rfl rfl rfl rfl rfl rfl ?_
        refine r_append 8 rfl (by first | exact .own _ | exact .nil) rfl (by first | exact .sl _ | exact .own _ _ | exact .nil) TF.sl57 TF.sz9 (by decide) TF.by9 TF.zlen9 (by simp [chunks] <;> omega) (by simp [chunks] <;> omega) rfl ?_
        refine r_assign rfl rfl ?_
        refine awl_nil ?_
        refine x_then ?_
        refine awp_seq ?_
        refine awp_region ?_
        first | (refine r_fieldb rfl TF.f36_0 TF.sz3 rfl ?_) | (refine r_fieldcp rfl TF.f36_0 TF.sz3 rfl ?_)
        first | (refine r_load1b 0 rfl rfl rfl TF.agg3 rfl ?_) | (refine r_load1 rfl TF.agg3 rfl ?_)
        refine r_cmp rfl rfl rfl rfl ?_
        refine awl_nil ?_
        refine x_then ?_
        refine awp_cond rfl (fun hc3 => ?_) (fun hc3 => ?_)
        ·
          have hns : namesC x = [x.name, x.to] := by simp [namesC, (eq_of_beq hc3 : x.kind = 4)]
          refine awp_region ?_
          refine r_move rfl rfl ?_
          first | (refine r_fieldb rfl TF.f36_2 TF.sz9 rfl ?_) | (refine r_fieldcp rfl TF.f36_2 TF.sz9 rfl ?_)
          first | (refine r_load1b 0 rfl rfl rfl TF.agg9 rfl ?_) | (refine r_load1 rfl TF.agg9 rfl ?_)
          refine r_lit 97 (parts := [(0, .tmp 96)]) rfl TF.sl57 TF.sz9 TF.zraw9 rfl rfl rfl rfl rfl rfl rfl ?_
          refine r_append 8 rfl (by first | exact .own _ | exact .nil) rfl (by first | exact .sl _ | exact .own _ _ | exact .nil) TF.sl57 TF.sz9 (by decide) TF.by9 TF.zlen9 (by simp [chunks] <;> omega) (by simp [chunks] <;> omega) rfl ?_
          refine r_assign rfl rfl ?_
          refine awl_nil ?_
          refine x_block ?_
          refine x_then ?_
          refine awp_region ?_
          refine r_move rfl rfl ?_
          refine r_ari _ rfl rfl rfl (wrap_id (by first | omega | (simp; omega))) rfl ?_
          refine r_assign rfl rfl ?_
          refine awl_nil ?_
          refine x_then ?_
          have hnt := allN_take hx
          refine ⟨d.length - (k + 1), ⟨119, [(0, .a (fcsA d)), (3, .own 8 1 ((allN (d.take (k + 1))).map (fun s : ByteArray => [AV.v (.string s)]))), (4, .a (.v (.int .i64 (((k + 1) : Int)))))], []⟩, ⟨rfl, (Slots.cons rfl (by first | exact .refl _ | exact .nilOwn _ _ | exact .nilSl _ | exact .ownSl _ _ _  | exact SV.le.ownEq (by first | rfl | (rw [hnt, hns, List.map_append]; simp [chunks]; done) | (rw [hnt, hns, List.map_append]; simp [chunks]; exact ⟨rfl, rfl⟩) | (rw [hnt, hns, List.map_append]; simp [chunks]; rfl)) | exact SV.le.of_eq (by first | rfl | (rw [hnt, hns, List.map_append]; simp [chunks]; done) | (rw [hnt, hns, List.map_append]; simp [chunks]; exact ⟨rfl, rfl⟩) | (rw [hnt, hns, List.map_append]; simp [chunks]; rfl))) (Slots.cons rfl (by first | exact .refl _ | exact .nilOwn _ _ | exact .nilSl _ | exact .ownSl _ _ _  | exact SV.le.ownEq (by first | rfl | (rw [hnt, hns, List.map_append]; simp [chunks]; done) | (rw [hnt, hns, List.map_append]; simp [chunks]; exact ⟨rfl, rfl⟩) | (rw [hnt, hns, List.map_append]; simp [chunks]; rfl)) | exact SV.le.of_eq (by first | rfl | (rw [hnt, hns, List.map_append]; simp [chunks]; done) | (rw [hnt, hns, List.map_append]; simp [chunks]; exact ⟨rfl, rfl⟩) | (rw [hnt, hns, List.map_append]; simp [chunks]; rfl))) (Slots.cons rfl (by first | exact .refl _ | exact .nilOwn _ _ | exact .nilSl _ | exact .ownSl _ _ _  | exact SV.le.ownEq (by first | rfl | (rw [hnt, hns, List.map_append]; simp [chunks]; done) | (rw [hnt, hns, List.map_append]; simp [chunks]; exact ⟨rfl, rfl⟩) | (rw [hnt, hns, List.map_append]; simp [chunks]; rfl)) | exact SV.le.of_eq (by first | rfl | (rw [hnt, hns, List.map_append]; simp [chunks]; done) | (rw [hnt, hns, List.map_append]; simp [chunks]; exact ⟨rfl, rfl⟩) | (rw [hnt, hns, List.map_append]; simp [chunks]; rfl))) Slots.nil))), (by first | exact List.Sublist.refl _ | exact .cons_cons _ (.cons _ (.refl _)) | exact List.nil_sublist _ | exact .cons _ (.refl _) | exact .cons _ (.cons _ (.refl _)) | exact .cons _ (.cons _ (.cons _ (.refl _))) | exact .cons _ (.cons _ (.cons _ (.cons _ (.refl _)))) | exact .cons_cons _ (List.nil_sublist _))⟩, (by omega), ⟨k + 1, rfl, rfl, (by omega), (fun i hi => by rcases Nat.lt_succ_iff_lt_or_eq.1 hi with h | rfl; exact hall i h; exact hgood), (by rw [hnt, List.length_append, hns]; simp; omega)⟩⟩
        ·
          have hns : namesC x = [x.name] := by simp [namesC, (by simpa using hc3 : ¬ x.kind = 4)]
          refine awp_skip ?_
          refine x_block ?_
          refine x_then ?_
          refine awp_region ?_
          refine r_move rfl rfl ?_
          refine r_ari _ rfl rfl rfl (wrap_id (by first | omega | (simp; omega))) rfl ?_
          refine r_assign rfl rfl ?_
          refine awl_nil ?_
          refine x_then ?_
          have hnt := allN_take hx
          refine ⟨d.length - (k + 1), ⟨119, [(0, .a (fcsA d)), (3, .own 8 1 ((allN (d.take (k + 1))).map (fun s : ByteArray => [AV.v (.string s)]))), (4, .a (.v (.int .i64 (((k + 1) : Int)))))], []⟩, ⟨rfl, (Slots.cons rfl (by first | exact .refl _ | exact .nilOwn _ _ | exact .nilSl _ | exact .ownSl _ _ _  | exact SV.le.ownEq (by first | rfl | (rw [hnt, hns, List.map_append]; simp [chunks]; done) | (rw [hnt, hns, List.map_append]; simp [chunks]; exact ⟨rfl, rfl⟩) | (rw [hnt, hns, List.map_append]; simp [chunks]; rfl)) | exact SV.le.of_eq (by first | rfl | (rw [hnt, hns, List.map_append]; simp [chunks]; done) | (rw [hnt, hns, List.map_append]; simp [chunks]; exact ⟨rfl, rfl⟩) | (rw [hnt, hns, List.map_append]; simp [chunks]; rfl))) (Slots.cons rfl (by first | exact .refl _ | exact .nilOwn _ _ | exact .nilSl _ | exact .ownSl _ _ _  | exact SV.le.ownEq (by first | rfl | (rw [hnt, hns, List.map_append]; simp [chunks]; done) | (rw [hnt, hns, List.map_append]; simp [chunks]; exact ⟨rfl, rfl⟩) | (rw [hnt, hns, List.map_append]; simp [chunks]; rfl)) | exact SV.le.of_eq (by first | rfl | (rw [hnt, hns, List.map_append]; simp [chunks]; done) | (rw [hnt, hns, List.map_append]; simp [chunks]; exact ⟨rfl, rfl⟩) | (rw [hnt, hns, List.map_append]; simp [chunks]; rfl))) (Slots.cons rfl (by first | exact .refl _ | exact .nilOwn _ _ | exact .nilSl _ | exact .ownSl _ _ _  | exact SV.le.ownEq (by first | rfl | (rw [hnt, hns, List.map_append]; simp [chunks]; done) | (rw [hnt, hns, List.map_append]; simp [chunks]; exact ⟨rfl, rfl⟩) | (rw [hnt, hns, List.map_append]; simp [chunks]; rfl)) | exact SV.le.of_eq (by first | rfl | (rw [hnt, hns, List.map_append]; simp [chunks]; done) | (rw [hnt, hns, List.map_append]; simp [chunks]; exact ⟨rfl, rfl⟩) | (rw [hnt, hns, List.map_append]; simp [chunks]; rfl))) Slots.nil))), (by first | exact List.Sublist.refl _ | exact .cons_cons _ (.cons _ (.refl _)) | exact List.nil_sublist _ | exact .cons _ (.refl _) | exact .cons _ (.cons _ (.refl _)) | exact .cons _ (.cons _ (.cons _ (.refl _))) | exact .cons _ (.cons _ (.cons _ (.cons _ (.refl _)))) | exact .cons_cons _ (List.nil_sublist _))⟩, (by omega), ⟨k + 1, rfl, rfl, (by omega), (fun i hi => by rcases Nat.lt_succ_iff_lt_or_eq.1 hi with h | rfl; exact hall i h; exact hgood), (by rw [hnt, List.length_append, hns]; simp; omega)⟩⟩
  ·
    have hge : d.length ≤ k := by have := of_decide_eq_false hc0; simp at this; omega
    rw [List.take_of_length_le hge] at hnl
    rw [List.take_of_length_le hge]
    obtain ⟨N, hN⟩ : ∃ N, N = allN d := ⟨_, rfl⟩
    rw [← hN] at hnl ⊢
    unfold allN at hN
    refine awp_exit ?_
    refine x_thenE ?_
    refine x_thenE ?_
    refine x_blockE ?_
    refine x_then ?_
    refine awp_seq ?_
    refine awp_seq ?_
    refine awp_region ?_
    refine r_assign rfl rfl ?_
    refine awl_nil ?_
    refine x_then ?_
    refine awp_block ?_
    refine awp_loop (fun nn0 S => ∃ i : Nat, S = ⟨119, [(3, .a (strsA N)), (6, .a (.v (.int .i64 ((i : Int)))))], []⟩ ∧ nn0 = N.length - i ∧ (i ≤ N.length) ∧ ((N.take i).Nodup)) (N.length - (0)) ⟨119, [(3, .a (strsA N)), (6, .a (.v (.int .i64 (((0) : Int)))))], []⟩ ⟨rfl, (Slots.cons rfl (by first | exact .refl _ | exact .nilOwn _ _ | exact .nilSl _ | exact .ownSl _ _ _  | exact SV.le.of_eq (by simp)) (Slots.cons rfl (by first | exact .refl _ | exact .nilOwn _ _ | exact .nilSl _ | exact .ownSl _ _ _  | exact SV.le.of_eq (by simp)) Slots.nil)), (by first | exact List.Sublist.refl _ | exact .cons_cons _ (.cons _ (.refl _)) | exact List.nil_sublist _ | exact .cons _ (.refl _) | exact .cons _ (.cons _ (.refl _)) | exact .cons _ (.cons _ (.cons _ (.refl _))) | exact .cons _ (.cons _ (.cons _ (.cons _ (.refl _)))) | exact .cons_cons _ (List.nil_sublist _))⟩ ⟨0, rfl, rfl, Nat.zero_le _, (by simp)⟩ ?_
    rintro nn0 _ ⟨i, rfl, rfl, hi, hnd⟩
    refine awp_seq ?_
    refine awp_seq ?_
    refine awp_region ?_
    refine r_move rfl rfl ?_
    refine r_move rfl rfl ?_
    first | (refine r_lenS rfl rfl TF.sl57 rfl ?_) | (refine r_lenNil rfl TF.sl57 rfl ?_) | (refine r_lenV rfl TF.sl57 rfl ?_)
    refine r_cmp rfl rfl rfl rfl ?_
    refine awl_nil ?_
    refine x_then ?_
    refine awp_cond rfl (fun hc4 => ?_) (fun hc4 => ?_)
    ·
      have hlti : i < N.length := by have := of_decide_eq_true hc4; simp at this; omega
      obtain ⟨s, hs⟩ := get_lt hlti
      refine awp_skip ?_
      refine x_then ?_
      refine awp_seq ?_
      refine awp_block ?_
      refine awp_seq ?_
      refine awp_region ?_
      refine r_assign rfl rfl ?_
      refine awl_nil ?_
      refine x_then ?_
      refine awp_block ?_
      refine awp_loop (fun nn0 S => ∃ j : Nat, S = ⟨119, [(3, .a (strsA N)), (6, .a (.v (.int .i64 ((i : Int))))), (7, .a (.v (.int .i64 ((j : Int)))))], []⟩ ∧ nn0 = i - j ∧ (j ≤ i) ∧ (s ∉ N.take j)) (i - (0)) ⟨119, [(3, .a (strsA N)), (6, .a (.v (.int .i64 ((i : Int))))), (7, .a (.v (.int .i64 (((0) : Int)))))], []⟩ ⟨rfl, (Slots.cons rfl (by first | exact .refl _ | exact .nilOwn _ _ | exact .nilSl _ | exact .ownSl _ _ _  | exact SV.le.of_eq (by simp)) (Slots.cons rfl (by first | exact .refl _ | exact .nilOwn _ _ | exact .nilSl _ | exact .ownSl _ _ _  | exact SV.le.of_eq (by simp)) (Slots.cons rfl (by first | exact .refl _ | exact .nilOwn _ _ | exact .nilSl _ | exact .ownSl _ _ _  | exact SV.le.of_eq (by simp)) Slots.nil))), (by first | exact List.Sublist.refl _ | exact .cons_cons _ (.cons _ (.refl _)) | exact List.nil_sublist _ | exact .cons _ (.refl _) | exact .cons _ (.cons _ (.refl _)) | exact .cons _ (.cons _ (.cons _ (.refl _))) | exact .cons _ (.cons _ (.cons _ (.cons _ (.refl _)))) | exact .cons_cons _ (List.nil_sublist _))⟩ ⟨0, rfl, rfl, Nat.zero_le _, (by simp)⟩ ?_
      rintro nn0 _ ⟨j, rfl, rfl, hj, hno⟩
      refine awp_seq ?_
      refine awp_seq ?_
      refine awp_region ?_
      refine r_move rfl rfl ?_
      refine r_move rfl rfl ?_
      refine r_cmp rfl rfl rfl rfl ?_
      refine awl_nil ?_
      refine x_then ?_
      refine awp_cond rfl (fun hc5 => ?_) (fun hc5 => ?_)
      ·
        have hltj : j < i := by have := of_decide_eq_true hc5; omega
        obtain ⟨u, hu⟩ := get_lt (show j < N.length by omega)
        refine awp_skip ?_
        refine x_then ?_
        refine awp_seq ?_
        refine awp_block ?_
        refine awp_seq ?_
        refine awp_drawS [110, 111, 112, 113, 114, 115, 116, 117] [_, _, _, _, _, _, _, _] [] [] TF.mixed rfl rfl rfl ⟨⟨⟨⟨⟨⟨⟨⟨trivial
          , ⟨_, rfl, fun sl hd hr ho => by
              refine r_move (hr 3 _ rfl rfl rfl) rfl ?_
              exact awl_nil ⟨rfl, post_put⟩⟩⟩
          , ⟨_, rfl, fun sl hd hr ho => by
              refine r_move (hr 6 _ rfl rfl rfl) rfl ?_
              exact awl_nil ⟨rfl, post_put⟩⟩⟩
          , ⟨_, rfl, fun sl hd hr ho => by
              refine r_index (hd 0 _ rfl rfl rfl) rfl (hd 1 _ rfl rfl rfl) TF.sl57 TF.sz9 (by omega) (get_map hs) rfl ?_
              exact awl_nil ⟨rfl, post_put⟩⟩⟩
          , ⟨_, rfl, fun sl hd hr ho => by
              refine r_load1 (hd 2 _ rfl rfl rfl) TF.agg9 rfl ?_
              exact awl_nil ⟨rfl, post_put⟩⟩⟩
          , ⟨_, rfl, fun sl hd hr ho => by
              refine r_move (hr 3 _ rfl rfl rfl) rfl ?_
              exact awl_nil ⟨rfl, post_put⟩⟩⟩
          , ⟨_, rfl, fun sl hd hr ho => by
              refine r_move (hr 7 _ rfl rfl rfl) rfl ?_
              exact awl_nil ⟨rfl, post_put⟩⟩⟩
          , ⟨_, rfl, fun sl hd hr ho => by
              refine r_index (hd 4 _ rfl rfl rfl) rfl (hd 5 _ rfl rfl rfl) TF.sl57 TF.sz9 (by omega) (get_map hu) rfl ?_
              exact awl_nil ⟨rfl, post_put⟩⟩⟩
          , ⟨_, rfl, fun sl hd hr ho => by
              refine r_load1 (hd 6 _ rfl rfl rfl) TF.agg9 rfl ?_
              exact awl_nil ⟨rfl, post_put⟩⟩⟩
          (by rfl) ?_
        refine r_str2 rfl rfl rfl rfl ?_
        refine awl_nil ?_
        refine x_then ?_
        refine awp_cond rfl (fun hc6 => ?_) (fun hc6 => ?_)
        ·
          have heq : s = u := by simpa using hc6
          have hdup : ¬ N.Nodup := fun hn => by
            obtain ⟨q1, rfl⟩ := List.getElem?_eq_some_iff.1 hs
            obtain ⟨q2, rfl⟩ := List.getElem?_eq_some_iff.1 hu
            exact absurd heq.symm (List.pairwise_iff_getElem.1 hn j i q2 q1 hltj)
          refine awp_seq ?_
          refine awp_region ?_
          refine r_assign rfl rfl ?_
          refine awl_nil ?_
          refine x_then ?_
          refine awp_ret ?_
          refine x_blockR ?_
          refine x_thenR ?_
          refine x_thenR ?_
          refine x_blockR ?_
          refine x_blockR ?_
          refine x_thenR ?_
          refine x_thenR ?_
          refine x_blockR ?_
          refine x_thenR ?_
          exact ⟨(.inl rfl), _, [], (.one (by first | exact .mk rfl rfl | exact .nil rfl)), ⟨rfl, by first | (rw [right_bad hltx hbad]; rfl) | (rw [show rightF d = false from by unfold rightF; rw [← hN, decide_eq_false hdup, Bool.and_false]]; rfl) | (rw [right_good (fun i hi => hall i (by omega)) (by rw [← hN]; exact hnd)]; rfl)⟩, (List.nil_sublist _), (by simp)⟩
        ·
          have hne : ¬ s = u := by simpa using hc6
          refine awp_skip ?_
          refine x_block ?_
          refine x_then ?_
          refine awp_region ?_
          refine r_move rfl rfl ?_
          refine r_ari _ rfl rfl rfl (wrap_id (by first | omega | (simp; omega))) rfl ?_
          refine r_assign rfl rfl ?_
          refine awl_nil ?_
          refine x_then ?_
          refine ⟨i - (j + 1), ⟨119, [(3, .a (strsA N)), (6, .a (.v (.int .i64 ((i : Int))))), (7, .a (.v (.int .i64 (((j + 1) : Int)))))], []⟩, ⟨rfl, (Slots.cons rfl (by first | exact .refl _ | exact .nilOwn _ _ | exact .nilSl _ | exact .ownSl _ _ _  | exact SV.le.of_eq (by simp)) (Slots.cons rfl (by first | exact .refl _ | exact .nilOwn _ _ | exact .nilSl _ | exact .ownSl _ _ _  | exact SV.le.of_eq (by simp)) (Slots.cons rfl (by first | exact .refl _ | exact .nilOwn _ _ | exact .nilSl _ | exact .ownSl _ _ _  | exact SV.le.of_eq (by simp)) Slots.nil))), (by first | exact List.Sublist.refl _ | exact .cons_cons _ (.cons _ (.refl _)) | exact List.nil_sublist _ | exact .cons _ (.refl _) | exact .cons _ (.cons _ (.refl _)) | exact .cons _ (.cons _ (.cons _ (.refl _))) | exact .cons _ (.cons _ (.cons _ (.cons _ (.refl _)))) | exact .cons_cons _ (List.nil_sublist _))⟩, (by omega), ⟨j + 1, rfl, rfl, (by omega), (by rw [takeS hu, List.mem_append, List.mem_singleton]; rintro (h | h); exact hno h; exact hne h)⟩⟩
      ·
        have hik : N.take j = N.take i := by have := of_decide_eq_false hc5; rw [show j = i by omega]
        refine awp_exit ?_
        refine x_thenE ?_
        refine x_thenE ?_
        refine x_blockE ?_
        refine x_block ?_
        refine x_then ?_
        refine awp_region ?_
        refine r_move rfl rfl ?_
        refine r_ari _ rfl rfl rfl (wrap_id (by first | omega | (simp; omega))) rfl ?_
        refine r_assign rfl rfl ?_
        refine awl_nil ?_
        refine x_then ?_
        refine ⟨N.length - (i + 1), ⟨119, [(3, .a (strsA N)), (6, .a (.v (.int .i64 (((i + 1) : Int)))))], []⟩, ⟨rfl, (Slots.cons rfl (by first | exact .refl _ | exact .nilOwn _ _ | exact .nilSl _ | exact .ownSl _ _ _  | exact SV.le.of_eq (by simp)) (Slots.cons rfl (by first | exact .refl _ | exact .nilOwn _ _ | exact .nilSl _ | exact .ownSl _ _ _  | exact SV.le.of_eq (by simp)) Slots.nil)), (by first | exact List.Sublist.refl _ | exact .cons_cons _ (.cons _ (.refl _)) | exact List.nil_sublist _ | exact .cons _ (.refl _) | exact .cons _ (.cons _ (.refl _)) | exact .cons _ (.cons _ (.cons _ (.refl _))) | exact .cons _ (.cons _ (.cons _ (.cons _ (.refl _)))) | exact .cons_cons _ (List.nil_sublist _))⟩, (by omega), ⟨i + 1, rfl, rfl, (by omega), (by rw [takeS hs]; exact nodup_snoc hnd (by rw [← hik]; exact hno))⟩⟩
    ·
      have hgei : N.length ≤ i := by have := of_decide_eq_false hc4; simp at this; omega
      rw [List.take_of_length_le hgei] at hnd
      refine awp_exit ?_
      refine x_thenE ?_
      refine x_thenE ?_
      refine x_blockE ?_
      refine x_then ?_
      refine awp_seq ?_
      refine awp_region ?_
      refine r_assign rfl rfl ?_
      refine awl_nil ?_
      refine x_then ?_
      refine awp_ret ?_
      exact ⟨(.inl rfl), _, [], (.one (by first | exact .mk rfl rfl | exact .nil rfl)), ⟨rfl, by first | (rw [right_bad hltx hbad]; rfl) | (rw [show rightF d = false from by unfold rightF; rw [← hN, decide_eq_false hdup, Bool.and_false]]; rfl) | (rw [right_good (fun i hi => hall i (by omega)) (by rw [← hN]; exact hnd)]; rfl)⟩, (List.nil_sublist _), (by simp)⟩

end Go.Proofs.Ytnbnegkdbjdekaa.A

/- Layer 62: the statements' walks. -/
import Derived.Test.YtnbnegkdbjdekaaProg
import Derived.KernelRfl
import Derived.Test.YtnbnegkdbjdekaaX62H
namespace Go.Proofs.Ytnbnegkdbjdekaa.A
open Go Go.RowKit
set_option linter.unusedVariables false
set_option linter.unusedSimpArgs false
set_option maxRecDepth 100000

theorem TF.en9 : entersT Try.prog 9 := enters_of Try.func9 (by kernel_rfl) (by kernel_rfl)
theorem TF.en10 : entersT Try.prog 10 := enters_of Try.func10 (by kernel_rfl) (by kernel_rfl)
theorem TF.en11 : entersT Try.prog 11 := enters_of Try.func11 (by kernel_rfl) (by kernel_rfl)
theorem TF.en14 : entersT Try.prog 14 := enters_of Try.func14 (by kernel_rfl) (by kernel_rfl)
theorem TF.en12 : entersT Try.prog 12 := enters_of Try.func12 (by kernel_rfl) (by kernel_rfl)
theorem TF.en15 : entersT Try.prog 15 := enters_of Try.func15 (by kernel_rfl) (by kernel_rfl)

theorem of_law (a b : List File) : AC Try.prog 3 [files a, files b] [] (fun r n => n = [] ∧ r = boolA true) := by
  refine ac_of_awp (rs := [4]) (nt := 41) Try.func3 rfl rfl rfl rfl (fun w0 C0 hq => ?_)
  refine awp_seq ?_
  refine awp_region ?_
  refine r_assign rfl rfl ?_
  refine awl_nil ?_
  refine x_then ?_
  refine awp_seq ?_
  refine awp_seq ?_
  refine awp_region ?_
  refine r_call0 hq rfl rfl .nil (awake_ok) rfl TF.en9 rfl (fun r hr => ?_)
  obtain rfl := hr
  refine r_not rfl rfl ?_
  refine awl_nil ?_
  refine x_then ?_
  refine awp_cond rfl (fun hc0 => ?_) (fun hc0 => ?_)
  ·
    exfalso; exact absurd hc0 (by decide)
  ·
    refine awp_skip ?_
    refine x_then ?_
    refine awp_seq ?_
    refine awp_seq ?_
    refine awp_region ?_
    refine r_move rfl rfl ?_
    refine r_call0 hq rfl rfl (.cons (.ev rfl rfl) .nil) (small_ok a) rfl TF.en10 rfl (fun r hr => ?_)
    rcases hr with rfl | ⟨rfl, h12a, hsa⟩
    
    ·
      refine r_cmp rfl rfl rfl rfl ?_
      refine r_move rfl rfl ?_
      refine g_skip rfl rfl rfl rfl ?_
      refine g_skip rfl rfl rfl rfl ?_
      refine g_skip rfl rfl rfl rfl ?_
      refine r_pickT rfl rfl rfl rfl ?_
      refine awl_nil ?_
      refine x_then ?_
      refine awp_condT rfl ?_
      refine awp_seq ?_
      refine awp_region ?_
      refine r_assign rfl rfl ?_
      refine awl_nil ?_
      refine x_then ?_
      refine awp_ret ?_
      refine x_thenR ?_
      exact ⟨(.inl rfl), _, [], (.one (by first | exact .mk rfl rfl | exact .nil rfl)), ⟨rfl, rfl⟩, (List.nil_sublist _), (by simp)⟩
    ·
      have hla : a.length ≤ 1000 := by omega
      have hna : ∀ f ∈ a, f.name.size ≤ 1000000 := fun f hf => by have := (hsa f hf).1; omega
      have hda : ∀ f ∈ a, f.data.length ≤ 1000000 := fun f hf => by have := (hsa f hf).2; omega
      refine r_cmp rfl rfl rfl rfl ?_
      refine r_move rfl rfl ?_
      refine g_run rfl rfl rfl ?_
      refine r_move rfl rfl ?_
      refine g_run rfl rfl rfl ?_
      refine r_call0 hq rfl rfl (.cons (.ev rfl rfl) .nil) (small_ok b) rfl TF.en10 rfl (fun r hr => ?_)
      rcases hr with rfl | ⟨rfl, h12b, hsb⟩
      
      ·
        refine g_run rfl rfl rfl ?_
        refine r_cmp rfl rfl rfl rfl ?_
        refine r_pickF rfl rfl rfl rfl ?_
        refine awl_nil ?_
        refine x_then ?_
        refine awp_cond rfl (fun hc1 => ?_) (fun hc1 => ?_)
        ·
          refine awp_seq ?_
          refine awp_region ?_
          refine r_assign rfl rfl ?_
          refine awl_nil ?_
          refine x_then ?_
          refine awp_ret ?_
          refine x_thenR ?_
          exact ⟨(.inl rfl), _, [], (.one (by first | exact .mk rfl rfl | exact .nil rfl)), ⟨rfl, rfl⟩, (List.nil_sublist _), (by simp)⟩
        ·
          exfalso; exact absurd hc1 (by decide)
      ·
        have hlb : b.length ≤ 1000 := by omega
        have hnb : ∀ f ∈ b, f.name.size ≤ 1000000 := fun f hf => by have := (hsb f hf).1; omega
        have hdb : ∀ f ∈ b, f.data.length ≤ 1000000 := fun f hf => by have := (hsb f hf).2; omega
        refine g_run rfl rfl rfl ?_
        refine r_cmp rfl rfl rfl rfl ?_
        refine r_pickF rfl rfl rfl rfl ?_
        refine awl_nil ?_
        refine x_then ?_
        refine awp_cond rfl (fun hc1 => ?_) (fun hc1 => ?_)
        ·
          exfalso; exact absurd hc1 (by decide)
        ·
          refine awp_skip ?_
          refine x_then ?_
          refine awp_seq ?_
          refine awp_region ?_
          refine r_move rfl rfl ?_
          refine r_call0 hq rfl rfl (.cons (.ev rfl rfl) .nil) (files_ok a (by omega) hda) rfl TF.en11 rfl (fun r hr => ?_)
          obtain rfl := hr
          refine r_move rfl rfl ?_
          refine r_call0 hq rfl rfl (.cons (.ev rfl rfl) .nil) (files_ok b (by omega) hdb) rfl TF.en11 rfl (fun r hr => ?_)
          obtain rfl := hr
          have hol := of_len a b
          refine r_assign rfl rfl ?_
          refine r_assign rfl rfl ?_
          refine awl_nil ?_
          refine x_then ?_
          refine awp_seq ?_
          refine awp_region ?_
          refine r_move rfl rfl ?_
          refine r_move rfl rfl ?_
          refine r_call0 hq rfl rfl (.cons (.ev rfl rfl) (.cons (.ev rfl rfl) .nil)) (of_ok a b hla hlb hna hnb hda hdb) rfl TF.en13 rfl (fun r hr => ?_)
          obtain rfl := hr
          refine r_move rfl rfl ?_
          refine r_move rfl rfl ?_
          refine r_call0 hq rfl rfl (.cons (.ev rfl rfl) (.cons (.ev rfl rfl) .nil)) (rof_ok a b hla hlb hda hdb) rfl TF.en14 rfl (fun r hr => ?_)
          obtain rfl := hr
          refine r_call0 hq rfl rfl (.cons (.ev rfl rfl) (.cons (.ev rfl rfl) .nil)) (same_ok (OfF a b) (by omega)) rfl TF.en12 rfl (fun r hr => ?_)
          obtain rfl := hr
          refine r_cmp rfl rfl rfl rfl ?_
          refine r_move rfl rfl ?_
          refine g_run rfl rfl rfl ?_
          refine r_move rfl rfl ?_
          refine g_run rfl rfl rfl ?_
          refine r_move rfl rfl ?_
          refine g_run rfl rfl rfl ?_
          refine r_call0 hq rfl rfl (.cons (.ev rfl rfl) (.cons (.ev rfl rfl) .nil)) (alike_ok a (by omega)) rfl TF.en15 rfl (fun r hr => ?_)
          obtain rfl := hr
          refine g_run rfl rfl rfl ?_
          refine r_cmp rfl rfl rfl rfl ?_
          refine r_pickT rfl rfl rfl rfl ?_
          refine r_move rfl rfl ?_
          refine g_run rfl rfl rfl ?_
          refine r_move rfl rfl ?_
          refine g_run rfl rfl rfl ?_
          refine r_move rfl rfl ?_
          refine g_run rfl rfl rfl ?_
          refine r_call0 hq rfl rfl (.cons (.ev rfl rfl) (.cons (.ev rfl rfl) .nil)) (alike_ok b (by omega)) rfl TF.en15 rfl (fun r hr => ?_)
          obtain rfl := hr
          refine g_run rfl rfl rfl ?_
          refine r_cmp rfl rfl rfl rfl ?_
          refine r_pickT rfl rfl rfl rfl ?_
          refine r_assign rfl rfl ?_
          refine awl_nil ?_
          refine x_then ?_
          refine awp_ret ?_
          exact ⟨(.inl rfl), _, [], (.one (by first | exact .mk rfl rfl | exact .nil rfl)), ⟨rfl, rfl⟩, (List.nil_sublist _), (by simp)⟩

theorem clean_lt {b : List File} {k : Nat} {x y : File} (hy : (cleanS b)[k - 1]? = some y) (hx : (cleanS b)[k]? = some x) (hk : 0 < k) : ltS y.name x.name = true := by
  rw [clean_map, List.getElem?_map] at hx hy
  cases h1 : (namesF b)[k]? with
  | none => rw [h1] at hx; cases hx
  | some s =>
    cases h2 : (namesF b)[k - 1]? with
    | none => rw [h2] at hy; cases hy
    | some t =>
      rw [h1] at hx; rw [h2] at hy
      simp at hx hy
      subst hx hy
      have hs := names_ok b
      obtain ⟨g1, rfl⟩ := List.getElem?_eq_some_iff.1 h1
      obtain ⟨g2, rfl⟩ := List.getElem?_eq_some_iff.1 h2
      exact List.pairwise_iff_getElem.1 hs (k - 1) k g2 g1 (by omega)
theorem bnd_nil (b : List File) : OfF (cleanS b) b = [] := of_nil (clean_look b)
theorem applyOf2_ok (a b : List File) (hla : a.length ≤ 1000) (hlb : b.length ≤ 1000) (hna : ∀ f ∈ a, f.name.size ≤ 1000000) (hnb : ∀ f ∈ b, f.name.size ≤ 1000000) (hda : ∀ f ∈ a, f.data.length ≤ 1000000) (hdb : ∀ f ∈ b, f.data.length ≤ 1000000) : AC Try.prog 16 [files (cleanS b), fcsA (OfF (cleanS b) a)] [] (fun r n => n = [] ∧ r = .tup [files (cleanS a), .v (.int .i64 0)]) :=
  applyOf_ok (cleanS b) a (by have := clean_len b; omega) hla (clean_name hnb) hna (clean_data hdb) hda

set_option maxHeartbeats 1000000 in
theorem back_law (a b : List File) : AC Try.prog 6 [files a, files b] [] (fun r n => n = [] ∧ r = boolA true) := by
  refine ac_of_awp (rs := [4]) (nt := 96) Try.func6 rfl rfl rfl rfl (fun w0 C0 hq => ?_)
  refine awp_seq ?_
  refine awp_region ?_
  refine r_assign rfl rfl ?_
  refine awl_nil ?_
  refine x_then ?_
  refine awp_seq ?_
  refine awp_seq ?_
  refine awp_region ?_
  refine r_call0 hq rfl rfl .nil (awake_ok) rfl TF.en9 rfl (fun r hr => ?_)
  obtain rfl := hr
  refine r_not rfl rfl ?_
  refine awl_nil ?_
  refine x_then ?_
  refine awp_cond rfl (fun hc0 => ?_) (fun hc0 => ?_)
  ·
    exfalso; exact absurd hc0 (by decide)
  ·
    refine awp_skip ?_
    refine x_then ?_
    refine awp_seq ?_
    refine awp_seq ?_
    refine awp_region ?_
    refine r_move rfl rfl ?_
    refine r_call0 hq rfl rfl (.cons (.ev rfl rfl) .nil) (small_ok a) rfl TF.en10 rfl (fun r hr => ?_)
    rcases hr with rfl | ⟨rfl, h12a, hsa⟩
    
    ·
      refine r_cmp rfl rfl rfl rfl ?_
      refine r_move rfl rfl ?_
      refine g_skip rfl rfl rfl rfl ?_
      refine g_skip rfl rfl rfl rfl ?_
      refine g_skip rfl rfl rfl rfl ?_
      refine r_pickT rfl rfl rfl rfl ?_
      refine awl_nil ?_
      refine x_then ?_
      refine awp_condT rfl ?_
      refine awp_seq ?_
      refine awp_region ?_
      refine r_assign rfl rfl ?_
      refine awl_nil ?_
      refine x_then ?_
      refine awp_ret ?_
      refine x_thenR ?_
      exact ⟨(.inl rfl), _, [], (.one (by first | exact .mk rfl rfl | exact .nil rfl)), ⟨rfl, rfl⟩, (List.nil_sublist _), (by simp)⟩
    ·
      have hla : a.length ≤ 1000 := by omega
      have hna : ∀ f ∈ a, f.name.size ≤ 1000000 := fun f hf => by have := (hsa f hf).1; omega
      have hda : ∀ f ∈ a, f.data.length ≤ 1000000 := fun f hf => by have := (hsa f hf).2; omega
      refine r_cmp rfl rfl rfl rfl ?_
      refine r_move rfl rfl ?_
      refine g_run rfl rfl rfl ?_
      refine r_move rfl rfl ?_
      refine g_run rfl rfl rfl ?_
      refine r_call0 hq rfl rfl (.cons (.ev rfl rfl) .nil) (small_ok b) rfl TF.en10 rfl (fun r hr => ?_)
      rcases hr with rfl | ⟨rfl, h12b, hsb⟩
      
      ·
        refine g_run rfl rfl rfl ?_
        refine r_cmp rfl rfl rfl rfl ?_
        refine r_pickF rfl rfl rfl rfl ?_
        refine awl_nil ?_
        refine x_then ?_
        refine awp_cond rfl (fun hc1 => ?_) (fun hc1 => ?_)
        ·
          refine awp_seq ?_
          refine awp_region ?_
          refine r_assign rfl rfl ?_
          refine awl_nil ?_
          refine x_then ?_
          refine awp_ret ?_
          refine x_thenR ?_
          exact ⟨(.inl rfl), _, [], (.one (by first | exact .mk rfl rfl | exact .nil rfl)), ⟨rfl, rfl⟩, (List.nil_sublist _), (by simp)⟩
        ·
          exfalso; exact absurd hc1 (by decide)
      ·
        have hlb : b.length ≤ 1000 := by omega
        have hnb : ∀ f ∈ b, f.name.size ≤ 1000000 := fun f hf => by have := (hsb f hf).1; omega
        have hdb : ∀ f ∈ b, f.data.length ≤ 1000000 := fun f hf => by have := (hsb f hf).2; omega
        refine g_run rfl rfl rfl ?_
        refine r_cmp rfl rfl rfl rfl ?_
        refine r_pickF rfl rfl rfl rfl ?_
        refine awl_nil ?_
        refine x_then ?_
        refine awp_cond rfl (fun hc1 => ?_) (fun hc1 => ?_)
        ·
          exfalso; exact absurd hc1 (by decide)
        ·
          refine awp_skip ?_
          refine x_then ?_
          refine awp_seq ?_
          refine awp_region ?_
          refine r_move rfl rfl ?_
          refine r_call0 hq rfl rfl (.cons (.ev rfl rfl) .nil) (files_ok a (by omega) hda) rfl TF.en11 rfl (fun r hr => ?_)
          obtain rfl := hr
          refine r_move rfl rfl ?_
          refine r_call0 hq rfl rfl (.cons (.ev rfl rfl) .nil) (files_ok b (by omega) hdb) rfl TF.en11 rfl (fun r hr => ?_)
          obtain rfl := hr
          have hcl := clean_len b
          have hcl2 := clean_len a
          refine r_assign rfl rfl ?_
          refine r_assign rfl rfl ?_
          refine awl_nil ?_
          refine x_then ?_
          refine awp_seq ?_
          refine awp_region ?_
          refine r_move rfl rfl ?_
          refine r_move rfl rfl ?_
          refine r_move rfl rfl ?_
          refine r_call0 hq rfl rfl (.cons (.ev rfl rfl) (.cons (.ev rfl rfl) .nil)) (of_ok a b hla hlb hna hnb hda hdb) rfl TF.en13 rfl (fun r hr => ?_)
          obtain rfl := hr
          refine r_call0 hq rfl rfl (.cons (.ev rfl rfl) (.cons (.ev rfl rfl) .nil)) (applyOf_ok a b hla hlb hna hnb hda hdb) rfl TF.en16 rfl (fun r hr => ?_)
          obtain rfl := hr
          refine r_move rfl rfl ?_
          refine r_extract rfl rfl rfl ?_
          refine r_extract rfl rfl rfl ?_
          refine r_assign rfl rfl ?_
          refine r_assign rfl rfl ?_
          refine awl_nil ?_
          refine x_then ?_
          refine awp_seq ?_
          refine awp_region ?_
          refine r_move rfl rfl ?_
          refine r_move rfl rfl ?_
          refine r_move rfl rfl ?_
          refine r_call0 hq rfl rfl (.cons (.ev rfl rfl) (.cons (.ev rfl rfl) .nil)) (of_ok (cleanS b) a (by have := clean_len b; omega) hla (clean_name hnb) hna (clean_data hdb) hda) rfl TF.en13 rfl (fun r hr => ?_)
          obtain rfl := hr
          refine r_call0 hq rfl rfl (.cons (.ev rfl rfl) (.cons (.ev rfl rfl) .nil)) (applyOf2_ok a b hla hlb hna hnb hda hdb) rfl TF.en16 rfl (fun r hr => ?_)
          obtain rfl := hr
          refine r_move rfl rfl ?_
          refine r_extract rfl rfl rfl ?_
          refine r_extract rfl rfl rfl ?_
          refine r_assign rfl rfl ?_
          refine r_assign rfl rfl ?_
          refine awl_nil ?_
          refine x_then ?_
          refine awp_seq ?_
          refine awp_seq ?_
          refine awp_region ?_
          refine r_move rfl rfl ?_
          refine r_cmp rfl rfl rfl rfl ?_
          refine r_move rfl rfl ?_
          refine g_run rfl rfl rfl ?_
          refine r_move rfl rfl ?_
          refine g_run rfl rfl rfl ?_
          refine r_cmp rfl rfl rfl rfl ?_
          refine r_pickF rfl rfl rfl rfl ?_
          refine awl_nil ?_
          refine x_then ?_
          refine awp_cond rfl (fun hc2 => ?_) (fun hc2 => ?_)
          ·
            exfalso; exact absurd hc2 (by decide)
          ·
            refine awp_skip ?_
            refine x_then ?_
            refine awp_seq ?_
            refine awp_seq ?_
            refine awp_region ?_
            refine r_move rfl rfl ?_
            first | (refine r_lenS rfl rfl TF.sl25 rfl ?_) | (refine r_lenNil rfl TF.sl25 rfl ?_) | (refine r_lenV rfl TF.sl25 rfl ?_)
            refine r_move rfl rfl ?_
            refine awl_nil ?_
            refine x_then ?_
            refine awp_block ?_
            refine awp_loop (fun nn0 S => ∃ k : Nat, S = ⟨96, [(0, .a (files a)), (1, .a (files b)), (5, .a (files a)), (6, .a (files b)), (7, .a (files (cleanS b))), (9, .a (files (cleanS a))), (49, .a (.v (.int .i64 (((cleanS b).map File.cs).length)))), (50, .a (.v (.int .i64 ((k : Int)))))], []⟩ ∧ nn0 = (cleanS b).length - k ∧ (k ≤ (cleanS b).length)) ((cleanS b).length - (0)) ⟨96, [(0, .a (files a)), (1, .a (files b)), (5, .a (files a)), (6, .a (files b)), (7, .a (files (cleanS b))), (9, .a (files (cleanS a))), (49, .a (.v (.int .i64 (((cleanS b).map File.cs).length)))), (50, .a (.v (.int .i64 (((0) : Int)))))], []⟩ ⟨rfl, (Slots.cons rfl (by first | exact .refl _ | exact .nilOwn _ _ | exact .nilSl _ | exact .ownSl _ _ _  | exact SV.le.of_eq (by simp)) (Slots.cons rfl (by first | exact .refl _ | exact .nilOwn _ _ | exact .nilSl _ | exact .ownSl _ _ _  | exact SV.le.of_eq (by simp)) (Slots.cons rfl (by first | exact .refl _ | exact .nilOwn _ _ | exact .nilSl _ | exact .ownSl _ _ _  | exact SV.le.of_eq (by simp)) (Slots.cons rfl (by first | exact .refl _ | exact .nilOwn _ _ | exact .nilSl _ | exact .ownSl _ _ _  | exact SV.le.of_eq (by simp)) (Slots.cons rfl (by first | exact .refl _ | exact .nilOwn _ _ | exact .nilSl _ | exact .ownSl _ _ _  | exact SV.le.of_eq (by simp)) (Slots.cons rfl (by first | exact .refl _ | exact .nilOwn _ _ | exact .nilSl _ | exact .ownSl _ _ _  | exact SV.le.of_eq (by simp)) (Slots.cons rfl (by first | exact .refl _ | exact .nilOwn _ _ | exact .nilSl _ | exact .ownSl _ _ _  | exact SV.le.of_eq (by simp)) (Slots.cons rfl (by first | exact .refl _ | exact .nilOwn _ _ | exact .nilSl _ | exact .ownSl _ _ _  | exact SV.le.of_eq (by simp)) Slots.nil)))))))), (by first | exact List.Sublist.refl _ | exact .cons_cons _ (.cons _ (.refl _)) | exact List.nil_sublist _ | exact .cons _ (.refl _) | exact .cons _ (.cons _ (.refl _)) | exact .cons _ (.cons _ (.cons _ (.refl _))) | exact .cons _ (.cons _ (.cons _ (.cons _ (.refl _)))) | exact .cons_cons _ (List.nil_sublist _))⟩ ⟨0, rfl, rfl, Nat.zero_le _⟩ ?_
            rintro nn0 _ ⟨k, rfl, rfl, hk⟩
            refine awp_seq ?_
            refine awp_region ?_
            refine r_cmp rfl rfl rfl rfl ?_
            refine awl_nil ?_
            refine x_then ?_
            refine awp_seq ?_
            refine awp_cond rfl (fun hc3 => ?_) (fun hc3 => ?_)
            ·
              have hltx : k < (cleanS b).length := by have := of_decide_eq_true hc3; simpa using this
              obtain ⟨x, hx⟩ := get_lt hltx
              obtain ⟨y, hy⟩ := get_lt (show k - 1 < (cleanS b).length by omega)
              refine awp_skip ?_
              refine x_then ?_
              refine awp_seq ?_
              refine awp_block ?_
              refine awp_seq ?_
              refine awp_region ?_
              refine r_move rfl rfl ?_
              refine r_assign rfl rfl ?_
              refine awl_nil ?_
              refine x_then ?_
              refine awp_seq ?_
              rcases Bool.eq_false_or_eq_true (decide ((0 : Int) < (k : Int))) with hg55 | hg55
              ·
                have hk0 : 0 < k := by have := of_decide_eq_true hg55; omega
                refine awp_drawS [53, 54, 55, 56, 57, 58, 59, 60, 61, 62, 63, 64, 65, 66] [_, _, _, _, _, _, _, _, _, _, _, _, _, _] [] [] TF.mixed rfl rfl rfl ⟨⟨⟨⟨⟨⟨⟨⟨⟨⟨⟨⟨⟨⟨trivial
                  , ⟨_, rfl, fun sl hd hr ho => by
                      refine r_move (hr 11 _ rfl rfl rfl) rfl ?_
                      exact awl_nil ⟨rfl, post_put⟩⟩⟩
                  , ⟨_, rfl, fun sl hd hr ho => by
                      refine r_cmp (hd 0 _ rfl rfl rfl) rfl rfl rfl ?_
                      exact awl_nil ⟨rfl, post_put⟩⟩⟩
                  , ⟨_, rfl, fun sl hd hr ho => by
                      refine r_move (hd 1 _ rfl rfl rfl) rfl ?_
                      exact awl_nil ⟨rfl, post_put⟩⟩⟩
                  , ⟨_, rfl, fun sl hd hr ho => by
                      refine g_run rfl (hd 2 _ rfl rfl rfl) hg55 ?_
                      refine r_move (hr 7 _ rfl rfl rfl) rfl ?_
                      exact awl_nil ⟨rfl, post_put⟩⟩⟩
                  , ⟨_, rfl, fun sl hd hr ho => by
                      refine g_run rfl (hd 2 _ rfl rfl rfl) hg55 ?_
                      refine r_move (hr 11 _ rfl rfl rfl) rfl ?_
                      exact awl_nil ⟨rfl, post_put⟩⟩⟩
                  , ⟨_, rfl, fun sl hd hr ho => by
                      refine g_run rfl (hd 2 _ rfl rfl rfl) hg55 ?_
                      refine r_ari _ (hd 4 _ rfl rfl rfl) rfl rfl (wrap_id (by first | omega | (simp; omega))) rfl ?_
                      exact awl_nil ⟨rfl, post_put⟩⟩⟩
                  , ⟨_, rfl, fun sl hd hr ho => by
                      refine g_run rfl (hd 2 _ rfl rfl rfl) hg55 ?_
                      refine r_index (hd 3 _ rfl rfl rfl) rfl (hd 5 _ rfl rfl rfl) TF.sl25 TF.sz48 (by omega) (by rw [show ((k : Int) - 1).toNat = k - 1 by omega]; exact get_map hy) rfl ?_
                      exact awl_nil ⟨rfl, post_put⟩⟩⟩
                  , ⟨_, rfl, fun sl hd hr ho => by
                      refine g_run rfl (hd 2 _ rfl rfl rfl) hg55 ?_
                      first | (refine r_fieldcp (hd 6 _ rfl rfl rfl) TF.f48_0 TF.sz9 rfl ?_) | (refine r_fieldb (hd 6 _ rfl rfl rfl) TF.f48_0 TF.sz9 rfl ?_)
                      exact awl_nil ⟨rfl, post_put⟩⟩⟩
                  , ⟨_, rfl, fun sl hd hr ho => by
                      refine g_run rfl (hd 2 _ rfl rfl rfl) hg55 ?_
                      refine r_load1 (hd 7 _ rfl rfl rfl) TF.agg9 rfl ?_
                      exact awl_nil ⟨rfl, post_put⟩⟩⟩
                  , ⟨_, rfl, fun sl hd hr ho => by
                      refine g_run rfl (hd 2 _ rfl rfl rfl) hg55 ?_
                      refine r_move (hr 7 _ rfl rfl rfl) rfl ?_
                      exact awl_nil ⟨rfl, post_put⟩⟩⟩
                  , ⟨_, rfl, fun sl hd hr ho => by
                      refine g_run rfl (hd 2 _ rfl rfl rfl) hg55 ?_
                      refine r_move (hr 11 _ rfl rfl rfl) rfl ?_
                      exact awl_nil ⟨rfl, post_put⟩⟩⟩
                  , ⟨_, rfl, fun sl hd hr ho => by
                      refine g_run rfl (hd 2 _ rfl rfl rfl) hg55 ?_
                      refine r_index (hd 9 _ rfl rfl rfl) rfl (hd 10 _ rfl rfl rfl) TF.sl25 TF.sz48 (by omega) (get_map hx) rfl ?_
                      exact awl_nil ⟨rfl, post_put⟩⟩⟩
                  , ⟨_, rfl, fun sl hd hr ho => by
                      refine g_run rfl (hd 2 _ rfl rfl rfl) hg55 ?_
                      first | (refine r_fieldcp (hd 11 _ rfl rfl rfl) TF.f48_0 TF.sz9 rfl ?_) | (refine r_fieldb (hd 11 _ rfl rfl rfl) TF.f48_0 TF.sz9 rfl ?_)
                      exact awl_nil ⟨rfl, post_put⟩⟩⟩
                  , ⟨_, rfl, fun sl hd hr ho => by
                      refine g_run rfl (hd 2 _ rfl rfl rfl) hg55 ?_
                      refine r_load1 (hd 12 _ rfl rfl rfl) TF.agg9 rfl ?_
                      exact awl_nil ⟨rfl, post_put⟩⟩⟩
                  (by rfl) ?_
                refine g_run rfl rfl hg55 ?_
                refine r_str2 rfl rfl rfl rfl ?_
                refine r_pickT rfl hg55 rfl rfl ?_
                refine awl_nil ?_
                refine x_then ?_
                refine awp_cond rfl (fun hc4 => ?_) (fun hc4 => ?_)
                ·
                  exfalso; rw [clean_lt hy hx hk0] at hc4; cases hc4
                ·
                  refine awp_skip ?_
                  refine x_block ?_
                  refine x_then ?_
                  refine awp_region ?_
                  refine r_ari _ rfl rfl rfl (wrap_id (by first | omega | (simp; omega))) rfl ?_
                  refine r_move rfl rfl ?_
                  refine awl_nil ?_
                  refine x_then ?_
                  refine ⟨(cleanS b).length - (k + 1), ⟨96, [(0, .a (files a)), (1, .a (files b)), (5, .a (files a)), (6, .a (files b)), (7, .a (files (cleanS b))), (9, .a (files (cleanS a))), (49, .a (.v (.int .i64 (((cleanS b).map File.cs).length)))), (50, .a (.v (.int .i64 (((k + 1) : Int)))))], []⟩, ⟨rfl, (Slots.cons rfl (by first | exact .refl _ | exact .nilOwn _ _ | exact .nilSl _ | exact .ownSl _ _ _  | exact SV.le.of_eq (by simp)) (Slots.cons rfl (by first | exact .refl _ | exact .nilOwn _ _ | exact .nilSl _ | exact .ownSl _ _ _  | exact SV.le.of_eq (by simp)) (Slots.cons rfl (by first | exact .refl _ | exact .nilOwn _ _ | exact .nilSl _ | exact .ownSl _ _ _  | exact SV.le.of_eq (by simp)) (Slots.cons rfl (by first | exact .refl _ | exact .nilOwn _ _ | exact .nilSl _ | exact .ownSl _ _ _  | exact SV.le.of_eq (by simp)) (Slots.cons rfl (by first | exact .refl _ | exact .nilOwn _ _ | exact .nilSl _ | exact .ownSl _ _ _  | exact SV.le.of_eq (by simp)) (Slots.cons rfl (by first | exact .refl _ | exact .nilOwn _ _ | exact .nilSl _ | exact .ownSl _ _ _  | exact SV.le.of_eq (by simp)) (Slots.cons rfl (by first | exact .refl _ | exact .nilOwn _ _ | exact .nilSl _ | exact .ownSl _ _ _  | exact SV.le.of_eq (by simp)) (Slots.cons rfl (by first | exact .refl _ | exact .nilOwn _ _ | exact .nilSl _ | exact .ownSl _ _ _  | exact SV.le.of_eq (by simp)) Slots.nil)))))))), (by first | exact List.Sublist.refl _ | exact .cons_cons _ (.cons _ (.refl _)) | exact List.nil_sublist _ | exact .cons _ (.refl _) | exact .cons _ (.cons _ (.refl _)) | exact .cons _ (.cons _ (.cons _ (.refl _))) | exact .cons _ (.cons _ (.cons _ (.cons _ (.refl _)))) | exact .cons_cons _ (List.nil_sublist _))⟩, (by omega), ⟨k + 1, rfl, rfl, (by omega)⟩⟩
              ·
                refine awp_drawS [53, 54, 55, 56, 57, 58, 59, 60, 61, 62, 63, 64, 65, 66] [_, _, _, _, _, _, _, _, _, _, _, _, _, _] [] [] TF.mixed rfl rfl rfl ⟨⟨⟨⟨⟨⟨⟨⟨⟨⟨⟨⟨⟨⟨trivial
                  , ⟨_, rfl, fun sl hd hr ho => by
                      refine r_move (hr 11 _ rfl rfl rfl) rfl ?_
                      exact awl_nil ⟨rfl, post_put⟩⟩⟩
                  , ⟨_, rfl, fun sl hd hr ho => by
                      refine r_cmp (hd 0 _ rfl rfl rfl) rfl rfl rfl ?_
                      exact awl_nil ⟨rfl, post_put⟩⟩⟩
                  , ⟨_, rfl, fun sl hd hr ho => by
                      refine r_move (hd 1 _ rfl rfl rfl) rfl ?_
                      exact awl_nil ⟨rfl, post_put⟩⟩⟩
                  , ⟨_, rfl, fun sl hd hr ho => by
                      refine g_skip rfl (hd 2 _ rfl rfl rfl) hg55 rfl ?_
                      exact awl_nil ⟨rfl, post_put⟩⟩⟩
                  , ⟨_, rfl, fun sl hd hr ho => by
                      refine g_skip rfl (hd 2 _ rfl rfl rfl) hg55 rfl ?_
                      exact awl_nil ⟨rfl, post_put⟩⟩⟩
                  , ⟨_, rfl, fun sl hd hr ho => by
                      refine g_skip rfl (hd 2 _ rfl rfl rfl) hg55 rfl ?_
                      exact awl_nil ⟨rfl, post_put⟩⟩⟩
                  , ⟨_, rfl, fun sl hd hr ho => by
                      refine g_skip rfl (hd 2 _ rfl rfl rfl) hg55 rfl ?_
                      exact awl_nil ⟨rfl, post_put⟩⟩⟩
                  , ⟨_, rfl, fun sl hd hr ho => by
                      refine g_skip rfl (hd 2 _ rfl rfl rfl) hg55 rfl ?_
                      exact awl_nil ⟨rfl, post_put⟩⟩⟩
                  , ⟨_, rfl, fun sl hd hr ho => by
                      refine g_skip rfl (hd 2 _ rfl rfl rfl) hg55 rfl ?_
                      exact awl_nil ⟨rfl, post_put⟩⟩⟩
                  , ⟨_, rfl, fun sl hd hr ho => by
                      refine g_skip rfl (hd 2 _ rfl rfl rfl) hg55 rfl ?_
                      exact awl_nil ⟨rfl, post_put⟩⟩⟩
                  , ⟨_, rfl, fun sl hd hr ho => by
                      refine g_skip rfl (hd 2 _ rfl rfl rfl) hg55 rfl ?_
                      exact awl_nil ⟨rfl, post_put⟩⟩⟩
                  , ⟨_, rfl, fun sl hd hr ho => by
                      refine g_skip rfl (hd 2 _ rfl rfl rfl) hg55 rfl ?_
                      exact awl_nil ⟨rfl, post_put⟩⟩⟩
                  , ⟨_, rfl, fun sl hd hr ho => by
                      refine g_skip rfl (hd 2 _ rfl rfl rfl) hg55 rfl ?_
                      exact awl_nil ⟨rfl, post_put⟩⟩⟩
                  , ⟨_, rfl, fun sl hd hr ho => by
                      refine g_skip rfl (hd 2 _ rfl rfl rfl) hg55 rfl ?_
                      exact awl_nil ⟨rfl, post_put⟩⟩⟩
                  (by rfl) ?_
                refine g_skip rfl rfl hg55 rfl ?_
                refine r_pickF rfl hg55 rfl rfl ?_
                refine awl_nil ?_
                refine x_then ?_
                refine awp_condF rfl ?_
                refine awp_skip ?_
                refine x_block ?_
                refine x_then ?_
                refine awp_region ?_
                refine r_ari _ rfl rfl rfl (wrap_id (by first | omega | (simp; omega))) rfl ?_
                refine r_move rfl rfl ?_
                refine awl_nil ?_
                refine x_then ?_
                refine ⟨(cleanS b).length - (k + 1), ⟨96, [(0, .a (files a)), (1, .a (files b)), (5, .a (files a)), (6, .a (files b)), (7, .a (files (cleanS b))), (9, .a (files (cleanS a))), (49, .a (.v (.int .i64 (((cleanS b).map File.cs).length)))), (50, .a (.v (.int .i64 (((k + 1) : Int)))))], []⟩, ⟨rfl, (Slots.cons rfl (by first | exact .refl _ | exact .nilOwn _ _ | exact .nilSl _ | exact .ownSl _ _ _  | exact SV.le.of_eq (by simp)) (Slots.cons rfl (by first | exact .refl _ | exact .nilOwn _ _ | exact .nilSl _ | exact .ownSl _ _ _  | exact SV.le.of_eq (by simp)) (Slots.cons rfl (by first | exact .refl _ | exact .nilOwn _ _ | exact .nilSl _ | exact .ownSl _ _ _  | exact SV.le.of_eq (by simp)) (Slots.cons rfl (by first | exact .refl _ | exact .nilOwn _ _ | exact .nilSl _ | exact .ownSl _ _ _  | exact SV.le.of_eq (by simp)) (Slots.cons rfl (by first | exact .refl _ | exact .nilOwn _ _ | exact .nilSl _ | exact .ownSl _ _ _  | exact SV.le.of_eq (by simp)) (Slots.cons rfl (by first | exact .refl _ | exact .nilOwn _ _ | exact .nilSl _ | exact .ownSl _ _ _  | exact SV.le.of_eq (by simp)) (Slots.cons rfl (by first | exact .refl _ | exact .nilOwn _ _ | exact .nilSl _ | exact .ownSl _ _ _  | exact SV.le.of_eq (by simp)) (Slots.cons rfl (by first | exact .refl _ | exact .nilOwn _ _ | exact .nilSl _ | exact .ownSl _ _ _  | exact SV.le.of_eq (by simp)) Slots.nil)))))))), (by first | exact List.Sublist.refl _ | exact .cons_cons _ (.cons _ (.refl _)) | exact List.nil_sublist _ | exact .cons _ (.refl _) | exact .cons _ (.cons _ (.refl _)) | exact .cons _ (.cons _ (.cons _ (.refl _))) | exact .cons _ (.cons _ (.cons _ (.cons _ (.refl _)))) | exact .cons_cons _ (List.nil_sublist _))⟩, (by omega), ⟨k + 1, rfl, rfl, (by omega)⟩⟩
            ·
              refine awp_exit ?_
              refine x_thenE ?_
              refine x_thenE ?_
              refine x_blockE ?_
              refine x_then ?_
              refine awp_seq ?_
              refine awp_region ?_
              refine r_move rfl rfl ?_
              refine r_move rfl rfl ?_
              refine r_call0 hq rfl rfl (.cons (.ev rfl rfl) .nil) (rclean_ok b hlb) rfl TF.en21 rfl (fun r hr => ?_)
              obtain rfl := hr
              refine r_call0 hq rfl rfl (.cons (.ev rfl rfl) (.cons (.ev rfl rfl) .nil)) (alike_ok (cleanS b) (by omega)) rfl TF.en15 rfl (fun r hr => ?_)
              obtain rfl := hr
              refine r_cmp rfl rfl rfl rfl ?_
              refine r_move rfl rfl ?_
              refine g_run rfl rfl rfl ?_
              refine r_move rfl rfl ?_
              refine g_run rfl rfl rfl ?_
              refine r_move rfl rfl ?_
              refine g_run rfl rfl rfl ?_
              refine r_call0 hq rfl rfl (.cons (.ev rfl rfl) .nil) (rclean_ok a hla) rfl TF.en21 rfl (fun r hr => ?_)
              obtain rfl := hr
              refine g_run rfl rfl rfl ?_
              refine r_call0 hq rfl rfl (.cons (.ev rfl rfl) (.cons (.ev rfl rfl) .nil)) (alike_ok (cleanS a) (by omega)) rfl TF.en15 rfl (fun r hr => ?_)
              obtain rfl := hr
              refine g_run rfl rfl rfl ?_
              refine r_cmp rfl rfl rfl rfl ?_
              refine r_pickT rfl rfl rfl rfl ?_
              refine r_move rfl rfl ?_
              refine g_run rfl rfl rfl ?_
              refine r_move rfl rfl ?_
              refine g_run rfl rfl rfl ?_
              refine r_move rfl rfl ?_
              refine g_run rfl rfl rfl ?_
              refine r_call0 hq rfl rfl (.cons (.ev rfl rfl) (.cons (.ev rfl rfl) .nil)) (of_ok (cleanS b) b (by have := clean_len b; omega) hlb (clean_name hnb) hnb (clean_data hdb) hdb) rfl TF.en13 rfl (fun r hr => ?_)
              obtain rfl := hr
              rw [bnd_nil]
              refine g_run rfl rfl rfl ?_
              first | (refine r_lenS rfl rfl TF.sl28 rfl ?_) | (refine r_lenNil rfl TF.sl28 rfl ?_) | (refine r_lenV rfl TF.sl28 rfl ?_)
              refine g_run rfl rfl rfl ?_
              refine r_cmp rfl rfl rfl rfl ?_
              refine r_pickT rfl rfl rfl rfl ?_
              refine r_move rfl rfl ?_
              refine g_run rfl rfl rfl ?_
              refine r_move rfl rfl ?_
              refine g_run rfl rfl rfl ?_
              refine r_move rfl rfl ?_
              refine g_run rfl rfl rfl ?_
              refine r_call0 hq rfl rfl (.cons (.ev rfl rfl) (.cons (.ev rfl rfl) .nil)) (of_ok a a hla hla hna hna hda hda) rfl TF.en13 rfl (fun r hr => ?_)
              obtain rfl := hr
              rw [of_nil (a := a) (b := a) (fun _ => rfl)]
              refine g_run rfl rfl rfl ?_
              first | (refine r_lenS rfl rfl TF.sl28 rfl ?_) | (refine r_lenNil rfl TF.sl28 rfl ?_) | (refine r_lenV rfl TF.sl28 rfl ?_)
              refine g_run rfl rfl rfl ?_
              refine r_cmp rfl rfl rfl rfl ?_
              refine r_pickT rfl rfl rfl rfl ?_
              refine r_assign rfl rfl ?_
              refine awl_nil ?_
              refine x_then ?_
              refine awp_ret ?_
              exact ⟨(.inl rfl), _, [], (.one (by first | exact .mk rfl rfl | exact .nil rfl)), ⟨rfl, rfl⟩, (List.nil_sublist _), (by simp)⟩

end Go.Proofs.Ytnbnegkdbjdekaa.A

/- Layer 62: the statements' walks (two). -/
import Derived.Test.YtnbnegkdbjdekaaProg
import Derived.KernelRfl
import Derived.Test.YtnbnegkdbjdekaaX62K
namespace Go.Proofs.Ytnbnegkdbjdekaa.A
open Go Go.RowKit
set_option linter.unusedVariables false
set_option linter.unusedSimpArgs false
set_option maxRecDepth 100000

theorem TF.en17 : entersT Try.prog 17 := enters_of Try.func17 (by kernel_rfl) (by kernel_rfl)
theorem TF.en18 : entersT Try.prog 18 := enters_of Try.func18 (by kernel_rfl) (by kernel_rfl)
theorem TF.en20 : entersT Try.prog 20 := enters_of Try.func20 (by kernel_rfl) (by kernel_rfl)
theorem TF.un4 : Try.prog.underlying 4 = some .bool := by kernel_rfl

set_option maxHeartbeats 1000000 in
theorem applies_law (l : List File) (d : List FC) : AC Try.prog 4 [files l, fcsA d] [] (fun r n => n = [] ∧ r = boolA true) := by
  refine ac_of_awp (rs := [4]) (nt := 67) Try.func4 rfl rfl rfl rfl (fun w0 C0 hq => ?_)
  refine awp_seq ?_
  refine awp_region ?_
  refine r_assign rfl rfl ?_
  refine awl_nil ?_
  refine x_then ?_
  refine awp_seq ?_
  refine awp_seq ?_
  refine awp_region ?_
  refine r_call0 hq rfl rfl .nil (awake_ok) rfl TF.en9 rfl (fun r hr => ?_)
  obtain rfl := hr
  refine r_not rfl rfl ?_
  refine awl_nil ?_
  refine x_then ?_
  refine awp_cond rfl (fun hc0 => ?_) (fun hc0 => ?_)
  ·
    exfalso; exact absurd hc0 (by decide)
  ·
    refine awp_skip ?_
    refine x_then ?_
    refine awp_seq ?_
    refine awp_seq ?_
    refine awp_region ?_
    refine r_move rfl rfl ?_
    refine r_call0 hq rfl rfl (.cons (.ev rfl rfl) .nil) (small_ok l) rfl TF.en10 rfl (fun r hr => ?_)
    rcases hr with rfl | ⟨rfl, h12l, hsl⟩
    
    ·
      refine r_cmp rfl rfl rfl rfl ?_
      refine r_move rfl rfl ?_
      refine g_skip rfl rfl rfl rfl ?_
      refine g_skip rfl rfl rfl rfl ?_
      refine g_skip rfl rfl rfl rfl ?_
      refine r_pickT rfl rfl rfl rfl ?_
      refine awl_nil ?_
      refine x_then ?_
      refine awp_condT rfl ?_
      refine awp_seq ?_
      refine awp_region ?_
      refine r_assign rfl rfl ?_
      refine awl_nil ?_
      refine x_then ?_
      refine awp_ret ?_
      refine x_thenR ?_
      exact ⟨(.inl rfl), _, [], (.one (by first | exact .mk rfl rfl | exact .nil rfl)), ⟨rfl, rfl⟩, (List.nil_sublist _), (by simp)⟩
    ·
      have hll : l.length ≤ 1000 := by omega
      have hnl : ∀ f ∈ l, f.name.size ≤ 1000000 := fun f hf => by have := (hsl f hf).1; omega
      have hdl : ∀ f ∈ l, f.data.length ≤ 1000000 := fun f hf => by have := (hsl f hf).2; omega
      refine r_cmp rfl rfl rfl rfl ?_
      refine r_move rfl rfl ?_
      refine g_run rfl rfl rfl ?_
      refine r_move rfl rfl ?_
      refine g_run rfl rfl rfl ?_
      first | (refine r_lenS rfl rfl TF.sl30 rfl ?_) | (refine r_lenNil rfl TF.sl30 rfl ?_) | (refine r_lenV rfl TF.sl30 rfl ?_)
      refine g_run rfl rfl rfl ?_
      refine r_cmp rfl rfl rfl rfl ?_
      refine r_pickF rfl rfl rfl rfl ?_
      refine awl_nil ?_
      refine x_then ?_
      refine awp_cond rfl (fun hc1 => ?_) (fun hc1 => ?_)
      ·
        refine awp_seq ?_
        refine awp_region ?_
        refine r_assign rfl rfl ?_
        refine awl_nil ?_
        refine x_then ?_
        refine awp_ret ?_
        refine x_thenR ?_
        exact ⟨(.inl rfl), _, [], (.one (by first | exact .mk rfl rfl | exact .nil rfl)), ⟨rfl, rfl⟩, (List.nil_sublist _), (by simp)⟩
      ·
        have hd12 : d.length ≤ 12 := by have := of_decide_eq_false hc1; simp at this; omega
        refine awp_skip ?_
        refine x_then ?_
        refine awp_seq ?_
        refine awp_seq ?_
        refine awp_region ?_
        refine r_move rfl rfl ?_
        first | (refine r_lenS rfl rfl TF.sl30 rfl ?_) | (refine r_lenNil rfl TF.sl30 rfl ?_) | (refine r_lenV rfl TF.sl30 rfl ?_)
        refine r_move rfl rfl ?_
        refine awl_nil ?_
        refine x_then ?_
        refine awp_block ?_
        refine awp_loop (fun nn0 S => ∃ k : Nat, S = ⟨67, [(0, .a (files l)), (1, .a (fcsA d)), (21, .a (fcsA d)), (22, .a (.v (.int .i64 ((d.map FC.cs).length)))), (23, .a (.v (.int .i64 ((k : Int)))))], []⟩ ∧ nn0 = d.length - k ∧ (k ≤ d.length) ∧ (∀ c ∈ d.take k, c.name.size ≤ 40 ∧ c.to.size ≤ 40 ∧ c.data.length ≤ 300)) (d.length - (0)) ⟨67, [(0, .a (files l)), (1, .a (fcsA d)), (21, .a (fcsA d)), (22, .a (.v (.int .i64 ((d.map FC.cs).length)))), (23, .a (.v (.int .i64 (((0) : Int)))))], []⟩ ⟨rfl, (Slots.cons rfl (by first | exact .refl _ | exact .nilOwn _ _ | exact .nilSl _ | exact .ownSl _ _ _  | exact SV.le.of_eq (by simp)) (Slots.cons rfl (by first | exact .refl _ | exact .nilOwn _ _ | exact .nilSl _ | exact .ownSl _ _ _  | exact SV.le.of_eq (by simp)) (Slots.cons rfl (by first | exact .refl _ | exact .nilOwn _ _ | exact .nilSl _ | exact .ownSl _ _ _  | exact SV.le.of_eq (by simp)) (Slots.cons rfl (by first | exact .refl _ | exact .nilOwn _ _ | exact .nilSl _ | exact .ownSl _ _ _  | exact SV.le.of_eq (by simp)) (Slots.cons rfl (by first | exact .refl _ | exact .nilOwn _ _ | exact .nilSl _ | exact .ownSl _ _ _  | exact SV.le.of_eq (by simp)) Slots.nil))))), (by first | exact List.Sublist.refl _ | exact .cons_cons _ (.cons _ (.refl _)) | exact List.nil_sublist _ | exact .cons _ (.refl _) | exact .cons _ (.cons _ (.refl _)) | exact .cons _ (.cons _ (.cons _ (.refl _))) | exact .cons _ (.cons _ (.cons _ (.cons _ (.refl _)))) | exact .cons_cons _ (List.nil_sublist _))⟩ ⟨0, rfl, rfl, Nat.zero_le _, (fun c hc => by simp at hc)⟩ ?_
        rintro nn0 _ ⟨k, rfl, rfl, hk, hbd⟩
        refine awp_seq ?_
        refine awp_region ?_
        refine r_cmp rfl rfl rfl rfl ?_
        refine awl_nil ?_
        refine x_then ?_
        refine awp_seq ?_
        refine awp_cond rfl (fun hc2 => ?_) (fun hc2 => ?_)
        ·
          have hltx : k < d.length := by have := of_decide_eq_true hc2; simpa using this
          obtain ⟨x, hx⟩ := get_lt hltx
          refine awp_skip ?_
          refine x_then ?_
          refine awp_seq ?_
          refine awp_block ?_
          refine awp_seq ?_
          refine awp_region ?_
          refine r_index rfl rfl rfl TF.sl30 TF.sz36 (by omega) (get_map hx) rfl ?_
          refine r_loadA rfl TF.agg36 TF.sz36 rfl rfl ?_
          refine r_alloc TF.zero36 rfl (fun b6 => ?_)
          refine r_store 0 rfl rfl rfl TF.sz36 rfl rfl rfl ?_
          refine awl_nil ?_
          refine x_then ?_
          refine awp_seq ?_
          refine awp_region ?_
          first | (refine r_fieldb rfl TF.f36_1 TF.sz9 rfl ?_) | (refine r_fieldcp rfl TF.f36_1 TF.sz9 rfl ?_)
          first | (refine r_load1b 0 rfl rfl rfl TF.agg9 rfl ?_) | (refine r_load1 rfl TF.agg9 rfl ?_)
          refine r_lenStr rfl TF.un9 rfl ?_
          refine r_cmp rfl rfl rfl rfl ?_
          refine r_move rfl rfl ?_
          refine g_cases (t' := 31) rfl (fun hg31 => ?_) (fun hg31 => ?_)
          ·
            refine g_skip rfl rfl hg31 rfl ?_
            refine g_skip rfl rfl hg31 rfl ?_
            refine g_skip rfl rfl hg31 rfl ?_
            refine g_skip rfl rfl hg31 rfl ?_
            refine r_pickT rfl hg31 rfl rfl ?_
            refine r_move rfl rfl ?_
            refine g_skip rfl rfl rfl rfl ?_
            refine g_skip rfl rfl rfl rfl ?_
            refine g_skip rfl rfl rfl rfl ?_
            refine g_skip rfl rfl rfl rfl ?_
            refine r_pickT rfl rfl rfl rfl ?_
            refine awl_nil ?_
            refine x_then ?_
            refine awp_condT rfl ?_
            refine awp_seq ?_
            refine awp_region ?_
            refine r_assign rfl rfl ?_
            refine awl_nil ?_
            refine x_then ?_
            refine awp_ret ?_
            refine x_blockR ?_
            refine x_thenR ?_
            refine x_thenR ?_
            refine x_blockR ?_
            refine x_thenR ?_
            exact ⟨(.inl rfl), _, [], (.one (by first | exact .mk rfl rfl | exact .nil rfl)), ⟨rfl, rfl⟩, (List.nil_sublist _), (by simp)⟩
          ·
            have hx1 : x.name.size ≤ 40 := by have := of_decide_eq_false hg31; omega
            refine g_run rfl rfl hg31 ?_
            first | (refine r_fieldb rfl TF.f36_2 TF.sz9 rfl ?_) | (refine r_fieldcp rfl TF.f36_2 TF.sz9 rfl ?_)
            refine g_run rfl rfl hg31 ?_
            first | (refine r_load1b 0 rfl rfl rfl TF.agg9 rfl ?_) | (refine r_load1 rfl TF.agg9 rfl ?_)
            refine g_run rfl rfl hg31 ?_
            refine r_lenStr rfl TF.un9 rfl ?_
            refine g_run rfl rfl hg31 ?_
            refine r_cmp rfl rfl rfl rfl ?_
            refine r_pickF rfl hg31 rfl rfl ?_
            refine r_move rfl rfl ?_
            refine g_cases (t' := 37) rfl (fun hg37 => ?_) (fun hg37 => ?_)
            ·
              refine g_skip rfl rfl hg37 rfl ?_
              refine g_skip rfl rfl hg37 rfl ?_
              refine g_skip rfl rfl hg37 rfl ?_
              refine g_skip rfl rfl hg37 rfl ?_
              refine r_pickT rfl hg37 rfl rfl ?_
              refine awl_nil ?_
              refine x_then ?_
              refine awp_condT rfl ?_
              refine awp_seq ?_
              refine awp_region ?_
              refine r_assign rfl rfl ?_
              refine awl_nil ?_
              refine x_then ?_
              refine awp_ret ?_
              refine x_blockR ?_
              refine x_thenR ?_
              refine x_thenR ?_
              refine x_blockR ?_
              refine x_thenR ?_
              exact ⟨(.inl rfl), _, [], (.one (by first | exact .mk rfl rfl | exact .nil rfl)), ⟨rfl, rfl⟩, (List.nil_sublist _), (by simp)⟩
            ·
              have hx2 : x.to.size ≤ 40 := by have := of_decide_eq_false hg37; omega
              refine g_run rfl rfl hg37 ?_
              first | (refine r_fieldb rfl TF.f36_3 TF.sz34 rfl ?_) | (refine r_fieldcp rfl TF.f36_3 TF.sz34 rfl ?_)
              refine g_run rfl rfl hg37 ?_
              first | (refine r_load1b 0 rfl rfl rfl TF.agg34 rfl ?_) | (refine r_load1 rfl TF.agg34 rfl ?_)
              refine g_run rfl rfl hg37 ?_
              first | (refine r_lenS rfl rfl TF.sl34 rfl ?_) | (refine r_lenNil rfl TF.sl34 rfl ?_) | (refine r_lenV rfl TF.sl34 rfl ?_)
              refine g_run rfl rfl hg37 ?_
              refine r_cmp rfl rfl rfl rfl ?_
              refine r_pickF rfl hg37 rfl rfl ?_
              refine awl_nil ?_
              refine x_then ?_
              refine awp_cond rfl (fun hc3 => ?_) (fun hc3 => ?_)
              ·
                refine awp_seq ?_
                refine awp_region ?_
                refine r_assign rfl rfl ?_
                refine awl_nil ?_
                refine x_then ?_
                refine awp_ret ?_
                refine x_blockR ?_
                refine x_thenR ?_
                refine x_thenR ?_
                refine x_blockR ?_
                refine x_thenR ?_
                exact ⟨(.inl rfl), _, [], (.one (by first | exact .mk rfl rfl | exact .nil rfl)), ⟨rfl, rfl⟩, (List.nil_sublist _), (by simp)⟩
              ·
                have hx3 : x.data.length ≤ 300 := by have := of_decide_eq_false hc3; rw [u8s_len] at this; omega
                refine awp_skip ?_
                refine x_block ?_
                refine x_then ?_
                refine awp_region ?_
                refine r_ari _ rfl rfl rfl (wrap_id (by first | omega | (simp; omega))) rfl ?_
                refine r_move rfl rfl ?_
                refine awl_nil ?_
                refine x_then ?_
                refine ⟨d.length - (k + 1), ⟨67, [(0, .a (files l)), (1, .a (fcsA d)), (21, .a (fcsA d)), (22, .a (.v (.int .i64 ((d.map FC.cs).length)))), (23, .a (.v (.int .i64 (((k + 1) : Int)))))], []⟩, ⟨rfl, (Slots.cons rfl (by first | exact .refl _ | exact .nilOwn _ _ | exact .nilSl _ | exact .ownSl _ _ _  | exact SV.le.of_eq (by simp)) (Slots.cons rfl (by first | exact .refl _ | exact .nilOwn _ _ | exact .nilSl _ | exact .ownSl _ _ _  | exact SV.le.of_eq (by simp)) (Slots.cons rfl (by first | exact .refl _ | exact .nilOwn _ _ | exact .nilSl _ | exact .ownSl _ _ _  | exact SV.le.of_eq (by simp)) (Slots.cons rfl (by first | exact .refl _ | exact .nilOwn _ _ | exact .nilSl _ | exact .ownSl _ _ _  | exact SV.le.of_eq (by simp)) (Slots.cons rfl (by first | exact .refl _ | exact .nilOwn _ _ | exact .nilSl _ | exact .ownSl _ _ _  | exact SV.le.of_eq (by simp)) Slots.nil))))), (by first | exact List.Sublist.refl _ | exact .cons_cons _ (.cons _ (.refl _)) | exact List.nil_sublist _ | exact .cons _ (.refl _) | exact .cons _ (.cons _ (.refl _)) | exact .cons _ (.cons _ (.cons _ (.refl _))) | exact .cons _ (.cons _ (.cons _ (.cons _ (.refl _)))) | exact .cons_cons _ (List.nil_sublist _))⟩, (by omega), ⟨k + 1, rfl, rfl, (by omega), (all_takeS hx hbd ⟨hx1, hx2, hx3⟩)⟩⟩
        ·
          have hge : d.length ≤ k := by have := of_decide_eq_false hc2; simp at this; omega
          have hbd2 := all_end hge hbd
          have hdn : ∀ c ∈ d, c.name.size ≤ 1000000 ∧ c.to.size ≤ 1000000 ∧ c.data.length ≤ 1000000 := fun c hc => by have := hbd2 c hc; omega
          refine awp_exit ?_
          refine x_thenE ?_
          refine x_thenE ?_
          refine x_blockE ?_
          refine x_then ?_
          refine awp_seq ?_
          refine awp_region ?_
          refine r_move rfl rfl ?_
          refine r_call0 hq rfl rfl (.cons (.ev rfl rfl) .nil) (files_ok l (by omega) hdl) rfl TF.en11 rfl (fun r hr => ?_)
          obtain rfl := hr
          refine r_move rfl rfl ?_
          refine r_call0 hq rfl rfl (.cons (.ev rfl rfl) .nil) (changes_ok d (by omega) (fun c hc => by have := (hdn c hc).2.2; omega)) rfl TF.en17 rfl (fun r hr => ?_)
          obtain rfl := hr
          have hr0 := rapply_ok l d (by omega) (by omega)
          refine r_call0 hq rfl rfl (.cons (.ev rfl rfl) (.cons (.ev rfl rfl) .nil)) (apply_ok l d (by omega) (by omega) hnl hdl hdn) rfl TF.en16 rfl (fun r hr => ?_)
          skip
          rcases hr with ⟨m, ha, hok, rfl⟩ | ⟨e, m, ha, hne, rfl⟩
          ·
            have hml := filesM_len m
            have hml2 := hok.len
            refine r_move rfl rfl ?_
            refine r_extract rfl rfl rfl ?_
            refine r_extract rfl rfl rfl ?_
            refine r_assign rfl rfl ?_
            refine r_assign rfl rfl ?_
            refine awl_nil ?_
            refine x_then ?_
            refine awp_seq ?_
            refine awp_region ?_
            refine r_move rfl rfl ?_
            refine r_move rfl rfl ?_
            refine r_call0 hq rfl rfl (.cons (.ev rfl rfl) (.cons (.ev rfl rfl) .nil)) (hr0) rfl TF.en18 rfl (fun r hr => ?_)
            obtain rfl : r = .tup [files (filesM m), .v (.int .i64 0)] := by
              rcases hr with ⟨m', h1, h2⟩ | ⟨e', m', h1, h2, _⟩
              · rw [ha] at h1; cases h1; exact h2
              · rw [ha] at h1; cases h1; exact absurd rfl h2
            refine r_move rfl rfl ?_
            refine r_extract rfl rfl rfl ?_
            refine r_extract rfl rfl rfl ?_
            refine r_assign rfl rfl ?_
            refine r_assign rfl rfl ?_
            refine awl_nil ?_
            refine x_then ?_
            refine awp_seq ?_
            refine awp_region ?_
            refine r_move rfl rfl ?_
            refine r_move rfl rfl ?_
            refine r_cmp rfl rfl rfl rfl ?_
            refine r_move rfl rfl ?_
            refine g_run rfl rfl rfl ?_
            refine r_move rfl rfl ?_
            refine g_run rfl rfl rfl ?_
            refine r_move rfl rfl ?_
            refine g_run rfl rfl rfl ?_
            refine r_call0 hq rfl rfl (.cons (.ev rfl rfl) (.cons (.ev rfl rfl) .nil)) (alike_ok (filesM m) (by omega)) rfl TF.en15 rfl (fun r hr => ?_)
            obtain rfl := hr
            refine g_run rfl rfl rfl ?_
            refine r_cmp rfl rfl rfl rfl ?_
            refine r_pickT rfl rfl rfl rfl ?_
            refine r_assign rfl rfl ?_
            refine awl_nil ?_
            refine x_then ?_
            refine awp_ret ?_
            exact ⟨(.inl rfl), _, [], (.one (by first | exact .mk rfl rfl | exact .nil rfl)), ⟨rfl, rfl⟩, (List.nil_sublist _), (by simp)⟩
          ·
            refine r_move rfl rfl ?_
            refine r_extract rfl rfl rfl ?_
            refine r_extract rfl rfl rfl ?_
            refine r_assign rfl rfl ?_
            refine r_assign rfl rfl ?_
            refine awl_nil ?_
            refine x_then ?_
            refine awp_seq ?_
            refine awp_region ?_
            refine r_move rfl rfl ?_
            refine r_move rfl rfl ?_
            refine r_call0 hq rfl rfl (.cons (.ev rfl rfl) (.cons (.ev rfl rfl) .nil)) (hr0) rfl TF.en18 rfl (fun r hr => ?_)
            obtain rfl : r = .tup [.v (.slice none 0 0), .v (.int .i64 e)] := by
              rcases hr with ⟨m', h1, _⟩ | ⟨e', m', h1, h2, h3⟩
              · rw [ha] at h1; cases h1; exact absurd rfl hne
              · rw [ha] at h1; cases h1; exact h3
            refine r_move rfl rfl ?_
            refine r_extract rfl rfl rfl ?_
            refine r_extract rfl rfl rfl ?_
            refine r_assign rfl rfl ?_
            refine r_assign rfl rfl ?_
            refine awl_nil ?_
            refine x_then ?_
            refine awp_seq ?_
            refine awp_region ?_
            refine r_move rfl rfl ?_
            refine r_move rfl rfl ?_
            refine r_cmp rfl rfl rfl rfl ?_
            refine r_move rfl rfl ?_
            refine g_run rfl rfl (by simp) ?_
            refine r_move rfl rfl ?_
            refine g_run rfl rfl (by simp) ?_
            refine r_move rfl rfl ?_
            refine g_run rfl rfl (by simp) ?_
            refine r_call0 hq rfl rfl (.cons (.nil rfl) (.cons (.nil rfl) .nil)) (alike_ok [] (by simp)) rfl TF.en15 rfl (fun r hr => ?_)
            obtain rfl := hr
            refine g_run rfl rfl (by simp) ?_
            refine r_cmp rfl rfl rfl rfl ?_
            refine r_pickT rfl (by simp) rfl rfl ?_
            refine r_assign rfl rfl ?_
            refine awl_nil ?_
            refine x_then ?_
            refine awp_ret ?_
            exact ⟨(.inl rfl), _, [], (.one (by first | exact .mk rfl rfl | exact .nil rfl)), ⟨rfl, rfl⟩, (List.nil_sublist _), (by simp)⟩

set_option maxHeartbeats 1000000 in
theorem right_law (d : List FC) (a b : List File) (hdd : ∀ c ∈ d, c.data.length ≤ 140737488351232) : AC Try.prog 5 [fcsA d, files a, files b] [] (fun r n => n = [] ∧ r = boolA true) := by
  refine ac_of_awp (rs := [6]) (nt := 36) Try.func5 rfl rfl rfl rfl (fun w0 C0 hq => ?_)
  refine awp_seq ?_
  refine awp_region ?_
  refine r_assign rfl rfl ?_
  refine awl_nil ?_
  refine x_then ?_
  refine awp_seq ?_
  refine awp_seq ?_
  refine awp_region ?_
  refine r_call0 hq rfl rfl .nil (awake_ok) rfl TF.en9 rfl (fun r hr => ?_)
  obtain rfl := hr
  refine r_not rfl rfl ?_
  refine awl_nil ?_
  refine x_then ?_
  refine awp_cond rfl (fun hc0 => ?_) (fun hc0 => ?_)
  ·
    exfalso; exact absurd hc0 (by decide)
  ·
    refine awp_skip ?_
    refine x_then ?_
    refine awp_seq ?_
    refine awp_seq ?_
    refine awp_region ?_
    refine r_move rfl rfl ?_
    refine r_call0 hq rfl rfl (.cons (.ev rfl rfl) .nil) (small_ok a) rfl TF.en10 rfl (fun r hr => ?_)
    rcases hr with rfl | ⟨rfl, h12a, hsa⟩
    
    ·
      refine r_cmp rfl rfl rfl rfl ?_
      refine r_move rfl rfl ?_
      refine g_skip rfl rfl rfl rfl ?_
      refine g_skip rfl rfl rfl rfl ?_
      refine g_skip rfl rfl rfl rfl ?_
      refine r_pickT rfl rfl rfl rfl ?_
      refine r_move rfl rfl ?_
      refine g_skip rfl rfl rfl rfl ?_
      refine g_skip rfl rfl rfl rfl ?_
      refine g_skip rfl rfl rfl rfl ?_
      refine r_pickT rfl rfl rfl rfl ?_
      refine awl_nil ?_
      refine x_then ?_
      refine awp_condT rfl ?_
      refine awp_seq ?_
      refine awp_region ?_
      refine r_assign rfl rfl ?_
      refine awl_nil ?_
      refine x_then ?_
      refine awp_ret ?_
      refine x_thenR ?_
      exact ⟨(.inl rfl), _, [], (.one (by first | exact .mk rfl rfl | exact .nil rfl)), ⟨rfl, rfl⟩, (List.nil_sublist _), (by simp)⟩
    ·
      have hla : a.length ≤ 1000 := by omega
      have hna : ∀ f ∈ a, f.name.size ≤ 1000000 := fun f hf => by have := (hsa f hf).1; omega
      have hda : ∀ f ∈ a, f.data.length ≤ 1000000 := fun f hf => by have := (hsa f hf).2; omega
      refine r_cmp rfl rfl rfl rfl ?_
      refine r_move rfl rfl ?_
      refine g_run rfl rfl rfl ?_
      refine r_move rfl rfl ?_
      refine g_run rfl rfl rfl ?_
      refine r_call0 hq rfl rfl (.cons (.ev rfl rfl) .nil) (small_ok b) rfl TF.en10 rfl (fun r hr => ?_)
      rcases hr with rfl | ⟨rfl, h12b, hsb⟩
      
      ·
        refine g_run rfl rfl rfl ?_
        refine r_cmp rfl rfl rfl rfl ?_
        refine r_pickF rfl rfl rfl rfl ?_
        refine r_move rfl rfl ?_
        refine g_skip rfl rfl rfl rfl ?_
        refine g_skip rfl rfl rfl rfl ?_
        refine g_skip rfl rfl rfl rfl ?_
        refine r_pickT rfl rfl rfl rfl ?_
        refine awl_nil ?_
        refine x_then ?_
        refine awp_condT rfl ?_
        refine awp_seq ?_
        refine awp_region ?_
        refine r_assign rfl rfl ?_
        refine awl_nil ?_
        refine x_then ?_
        refine awp_ret ?_
        refine x_thenR ?_
        exact ⟨(.inl rfl), _, [], (.one (by first | exact .mk rfl rfl | exact .nil rfl)), ⟨rfl, rfl⟩, (List.nil_sublist _), (by simp)⟩
      ·
        have hlb : b.length ≤ 1000 := by omega
        have hnb : ∀ f ∈ b, f.name.size ≤ 1000000 := fun f hf => by have := (hsb f hf).1; omega
        have hdb : ∀ f ∈ b, f.data.length ≤ 1000000 := fun f hf => by have := (hsb f hf).2; omega
        refine g_run rfl rfl rfl ?_
        refine r_cmp rfl rfl rfl rfl ?_
        refine r_pickF rfl rfl rfl rfl ?_
        refine r_move rfl rfl ?_
        refine g_run rfl rfl rfl ?_
        refine r_move rfl rfl ?_
        refine g_run rfl rfl rfl ?_
        first | (refine r_lenS rfl rfl TF.sl30 rfl ?_) | (refine r_lenNil rfl TF.sl30 rfl ?_) | (refine r_lenV rfl TF.sl30 rfl ?_)
        refine g_run rfl rfl rfl ?_
        refine r_cmp rfl rfl rfl rfl ?_
        refine r_pickF rfl rfl rfl rfl ?_
        refine awl_nil ?_
        refine x_then ?_
        refine awp_cond rfl (fun hc1 => ?_) (fun hc1 => ?_)
        ·
          refine awp_seq ?_
          refine awp_region ?_
          refine r_assign rfl rfl ?_
          refine awl_nil ?_
          refine x_then ?_
          refine awp_ret ?_
          refine x_thenR ?_
          exact ⟨(.inl rfl), _, [], (.one (by first | exact .mk rfl rfl | exact .nil rfl)), ⟨rfl, rfl⟩, (List.nil_sublist _), (by simp)⟩
        ·
          have hd12 : d.length ≤ 12 := by have := of_decide_eq_false hc1; simp at this; omega
          refine awp_skip ?_
          refine x_then ?_
          refine awp_seq ?_
          refine awp_region ?_
          refine r_move rfl rfl ?_
          refine r_call0 hq rfl rfl (.cons (.ev rfl rfl) .nil) (changes_ok d (by omega) hdd) rfl TF.en17 rfl (fun r hr => ?_)
          obtain rfl := hr
          refine r_call0 hq rfl rfl (.cons (.ev rfl rfl) .nil) (right_ok d (by omega)) rfl TF.en19 rfl (fun r hr => ?_)
          obtain rfl := hr
          refine r_move rfl rfl ?_
          refine r_call0 hq rfl rfl (.cons (.ev rfl rfl) .nil) (rright_ok d (by omega)) rfl TF.en20 rfl (fun r hr => ?_)
          obtain rfl := hr
          refine r_beq rfl rfl TF.un4 rfl ?_
          refine r_move rfl rfl ?_
          refine g_run rfl rfl (by simp) ?_
          refine r_move rfl rfl ?_
          refine g_run rfl rfl (by simp) ?_
          refine r_call0 hq rfl rfl (.cons (.ev rfl rfl) .nil) (files_ok a (by omega) hda) rfl TF.en11 rfl (fun r hr => ?_)
          obtain rfl := hr
          refine g_run rfl rfl (by simp) ?_
          refine r_move rfl rfl ?_
          refine g_run rfl rfl (by simp) ?_
          refine r_call0 hq rfl rfl (.cons (.ev rfl rfl) .nil) (files_ok b (by omega) hdb) rfl TF.en11 rfl (fun r hr => ?_)
          obtain rfl := hr
          have hol := of_len a b
          refine g_run rfl rfl (by simp) ?_
          refine r_call0 hq rfl rfl (.cons (.ev rfl rfl) (.cons (.ev rfl rfl) .nil)) (of_ok a b hla hlb hna hnb hda hdb) rfl TF.en13 rfl (fun r hr => ?_)
          obtain rfl := hr
          refine g_run rfl rfl (by simp) ?_
          refine r_call0 hq rfl rfl (.cons (.ev rfl rfl) .nil) (right_ok (OfF a b) (by omega)) rfl TF.en19 rfl (fun r hr => ?_)
          obtain rfl := hr
          rw [right_of]
          refine r_pickT rfl (by simp) rfl rfl ?_
          refine r_assign rfl rfl ?_
          refine awl_nil ?_
          refine x_then ?_
          refine awp_ret ?_
          exact ⟨(.inl rfl), _, [], (.one (by first | exact .mk rfl rfl | exact .nil rfl)), ⟨rfl, rfl⟩, (List.nil_sublist _), (by simp)⟩

end Go.Proofs.Ytnbnegkdbjdekaa.A

/- Layer 62: the document's Apply. -/
import Derived.Test.YtnbnegkdbjdekaaProg
import Derived.KernelRfl
import Derived.Test.YtnbnegkdbjdekaaX62J
namespace Go.Proofs.Ytnbnegkdbjdekaa.A
open Go Go.RowKit
set_option linter.unusedVariables false
set_option linter.unusedSimpArgs false
set_option maxRecDepth 100000

theorem TF.pl54 : placesT Try.prog 54 = some [(0, 1), (1, 1)] := by kernel_rfl

theorem stepR_ok {now : List File} {m : SM} {x : FC} (ht : TellsN now m) (hkr : 1 ≤ x.kind ∧ x.kind ≤ 4) (h2 : x.kind = 1 → (now.findIdx? (fun f => decide (f.name = x.name))) = none) (h3 : ¬ x.kind = 1 → ∃ i, (now.findIdx? (fun f => decide (f.name = x.name))) = some i) (h4 : x.kind = 4 → (now.findIdx? (fun f => decide (f.name = x.to))) = none) : (stepM m x).1 = 0 := by
  by_cases k1 : x.kind = 1
  · have := find_none_look (h2 k1)
    simp [stepM, k1, ht.2, this]
  · obtain ⟨i, hi⟩ := h3 k1
    obtain ⟨y, _, _, hlk⟩ := find_some_look hi
    have hk : x.kind = 2 ∨ x.kind = 3 ∨ x.kind = 4 := by omega
    have e : stepM m x = alterM m x := by simp [stepM, k1, hk, ht.2, hlk]
    rw [e]
    by_cases k4 : x.kind = 4
    · have := find_none_look (h4 k4)
      simp [alterM, k4, ht.2, this]
    · rcases hk with h | h | h
      · simp [alterM, h]
      · simp [alterM, h]
      · exact absurd h k4
theorem item_miss {c : FC} {o : Option Nat} {y : File} {j : Nat} (h : ¬ some j = o) : itemR c o (y, j) = some y := by simp [itemR, h]
theorem item_hit {c : FC} {o : Option Nat} {y : File} {j : Nat} (h : some j = o) : itemR c o (y, j) = (if c.kind = 2 then none else if c.kind = 3 then some ⟨y.name, c.data⟩ else if c.kind = 4 then some ⟨c.to, y.data⟩ else some y) := by simp [itemR, h]
theorem at_hit {o : Option Nat} {j : Nat} (h : some j = o) : ((j : Int) == optI o) = true := by subst h; simp [optI]
theorem at_miss {o : Option Nat} {j : Nat} (h : ¬ some j = o) : ((j : Int) == optI o) = false := by
  cases o with
  | none => simp [optI] <;> omega
  | some i => simp [optI]; intro e; exact h (by rw [show j = i by omega])

set_option maxHeartbeats 2000000 in
theorem rapply_ok (l : List File) (d : List FC) (hl : l.length ≤ 400) (hd0 : d.length ≤ 400) : AC Try.prog 18 [files l, fcsA d] [] (fun r n => n = [] ∧ ((∃ m, applyM (firstM l) d = (0, m) ∧ r = .tup [files (filesM m), .v (.int .i64 0)]) ∨ (∃ e m, applyM (firstM l) d = (e, m) ∧ ¬ e = 0 ∧ r = .tup [.v (.slice none 0 0), .v (.int .i64 e)]))) := by
  refine ac_of_awp (rs := [4, 5]) (nt := 120) Try.func18 rfl rfl rfl rfl (fun w0 C0 hq => ?_)
  refine awp_seq ?_
  refine awp_region ?_
  refine r_assign rfl rfl ?_
  refine r_assign rfl rfl ?_
  refine awl_nil ?_
  refine x_then ?_
  refine awp_seq ?_
  refine awp_region ?_
  refine r_move rfl rfl ?_
  refine r_call0 hq rfl rfl (.cons (.ev rfl rfl) .nil) (rclean_ok l (by omega)) rfl TF.en21 rfl (fun r hr => ?_)
  obtain rfl := hr
  have hcll := clean_len l
  refine r_assign rfl rfl ?_
  refine awl_nil ?_
  refine x_then ?_
  refine awp_seq ?_
  refine awp_seq ?_
  refine awp_region ?_
  refine r_assign rfl rfl ?_
  refine awl_nil ?_
  refine x_then ?_
  refine awp_block ?_
  refine awp_loop (fun nn0 S => ∃ k : Nat, ∃ m : SM, ∃ now : List File, S = ⟨120, [(1, .a (fcsA d)), (6, .a (files now)), (7, .a (.v (.int .i64 ((k : Int)))))], []⟩ ∧ nn0 = d.length - k ∧ (k ≤ d.length) ∧ (applyM (firstM l) (d.take k) = (0, m)) ∧ (TellsN now m) ∧ ((m.map (·.1)).Nodup) ∧ (now.length ≤ l.length + k)) (d.length - (0)) ⟨120, [(1, .a (fcsA d)), (6, .a (files ((cleanS l)))), (7, .a (.v (.int .i64 (((0) : Int)))))], []⟩ ⟨rfl, (Slots.cons rfl (by first | exact .refl _ | exact .nilOwn _ _ | exact .nilSl _ | exact .ownSl _ _ _  | exact SV.le.of_eq (by simp)) (Slots.cons rfl (by first | exact .refl _ | exact .nilOwn _ _ | exact .nilSl _ | exact .ownSl _ _ _  | exact SV.le.of_eq (by simp)) (Slots.cons rfl (by first | exact .refl _ | exact .nilOwn _ _ | exact .nilSl _ | exact .ownSl _ _ _  | exact SV.le.of_eq (by simp)) Slots.nil))), (by first | exact List.Sublist.refl _ | exact .cons_cons _ (.cons _ (.refl _)) | exact List.nil_sublist _ | exact .cons _ (.refl _) | exact .cons _ (.cons _ (.refl _)) | exact .cons _ (.cons _ (.cons _ (.refl _))) | exact .cons _ (.cons _ (.cons _ (.cons _ (.refl _)))) | exact .cons_cons _ (List.nil_sublist _))⟩ ⟨0, (firstM l), (cleanS l), rfl, rfl, Nat.zero_le _, rfl, (tellsN_clean l), (tells_first l).nd, (by omega)⟩ ?_
  rintro nn0 _ ⟨k, m, now, rfl, rfl, hk, hap, htn, hnd, hnl⟩
  refine awp_seq ?_
  refine awp_seq ?_
  refine awp_region ?_
  refine r_move rfl rfl ?_
  refine r_move rfl rfl ?_
  first | (refine r_lenS rfl rfl TF.sl30 rfl ?_) | (refine r_lenNil rfl TF.sl30 rfl ?_) | (refine r_lenV rfl TF.sl30 rfl ?_)
  refine r_cmp rfl rfl rfl rfl ?_
  refine awl_nil ?_
  refine x_then ?_
  refine awp_cond rfl (fun hc0 => ?_) (fun hc0 => ?_)
  ·
    have hltx : k < d.length := by have := of_decide_eq_true hc0; simpa using this
    obtain ⟨x, hx⟩ := get_lt hltx
    refine awp_skip ?_
    refine x_then ?_
    refine awp_seq ?_
    refine awp_block ?_
    refine awp_seq ?_
    refine awp_region ?_
    refine r_move rfl rfl ?_
    refine r_move rfl rfl ?_
    refine r_index rfl rfl rfl TF.sl30 TF.sz36 (by omega) (get_map hx) rfl ?_
    refine r_loadA rfl TF.agg36 TF.sz36 rfl rfl ?_
    refine r_alloc TF.zero36 rfl (fun b8 => ?_)
    refine r_store 0 rfl rfl rfl TF.sz36 rfl rfl rfl ?_
    refine awl_nil ?_
    refine x_then ?_
    refine awp_cut (fun S => ∃ b8 : Nat, S = ⟨120, [(1, .a (fcsA d)), (6, .a (files now)), (7, .a (.v (.int .i64 ((k : Int))))), (8, .a (.v (.pointer (some ⟨b8, 0, none⟩))))], [⟨b8, true, .box (FC.cs x)⟩]⟩ ∧ (1 ≤ x.kind ∧ x.kind ≤ 4)) ?_ ?_
    ·
      refine awp_seq ?_
      refine awp_region ?_
      first | (refine r_fieldb rfl TF.f36_0 TF.sz3 rfl ?_) | (refine r_fieldcp rfl TF.f36_0 TF.sz3 rfl ?_)
      refine r_load1b 0 rfl rfl rfl TF.agg3 rfl ?_
      refine r_cmp rfl rfl rfl rfl ?_
      refine r_move rfl rfl ?_
      refine g_cases (t' := 28) rfl (fun hg28 => ?_) (fun hg28 => ?_)
      ·
        refine g_skip rfl rfl hg28 rfl ?_
        refine g_skip rfl rfl hg28 rfl ?_
        refine g_skip rfl rfl hg28 rfl ?_
        refine r_pickT rfl hg28 rfl rfl ?_
        refine awl_nil ?_
        refine x_then ?_
        refine awp_condT rfl ?_
        have hst : stepM m x = (18, m) := by
          have hkk : x.kind < 1 ∨ 4 < x.kind := by first | exact .inl (of_decide_eq_true hg28) | exact .inr (of_decide_eq_true hc1)
          unfold stepM; rw [if_neg (by omega), if_neg (by omega)]
        refine awp_seq ?_
        refine awp_region ?_
        refine r_assign rfl rfl ?_
        refine r_assign rfl rfl ?_
        refine awl_nil ?_
        refine x_then ?_
        refine awp_ret ?_
        refine x_thenR ?_
        refine x_blockR ?_
        refine x_thenR ?_
        refine x_thenR ?_
        refine x_blockR ?_
        refine x_thenR ?_
        exact ⟨(.inl rfl), _, [], (.two (by first | exact .mk rfl rfl | exact .nil rfl) (by first | exact .mk rfl rfl | exact .nil rfl)), ⟨rfl, .inr ⟨_, _, (applyM_fail hx hap (by rw [hst]; simp)).trans hst, by decide, rfl⟩⟩, (List.nil_sublist _), (by simp)⟩
      ·
        refine g_run rfl rfl hg28 ?_
        first | (refine r_fieldb rfl TF.f36_0 TF.sz3 rfl ?_) | (refine r_fieldcp rfl TF.f36_0 TF.sz3 rfl ?_)
        refine g_run rfl rfl hg28 ?_
        refine r_load1b 0 rfl rfl rfl TF.agg3 rfl ?_
        refine g_run rfl rfl hg28 ?_
        refine r_cmp rfl rfl rfl rfl ?_
        refine r_pickF rfl hg28 rfl rfl ?_
        refine awl_nil ?_
        refine x_then ?_
        refine awp_cond rfl (fun hc1 => ?_) (fun hc1 => ?_)
        ·
          have hst : stepM m x = (18, m) := by
            have hkk : x.kind < 1 ∨ 4 < x.kind := by first | exact .inl (of_decide_eq_true hg28) | exact .inr (of_decide_eq_true hc1)
            unfold stepM; rw [if_neg (by omega), if_neg (by omega)]
          refine awp_seq ?_
          refine awp_region ?_
          refine r_assign rfl rfl ?_
          refine r_assign rfl rfl ?_
          refine awl_nil ?_
          refine x_then ?_
          refine awp_ret ?_
          refine x_thenR ?_
          refine x_blockR ?_
          refine x_thenR ?_
          refine x_thenR ?_
          refine x_blockR ?_
          refine x_thenR ?_
          exact ⟨(.inl rfl), _, [], (.two (by first | exact .mk rfl rfl | exact .nil rfl) (by first | exact .mk rfl rfl | exact .nil rfl)), ⟨rfl, .inr ⟨_, _, (applyM_fail hx hap (by rw [hst]; simp)).trans hst, by decide, rfl⟩⟩, (List.nil_sublist _), (by simp)⟩
        ·
          have hkr : 1 ≤ x.kind ∧ x.kind ≤ 4 := ⟨by have := of_decide_eq_false hg28; omega, by have := of_decide_eq_false hc1; omega⟩
          refine awp_skip ?_
          refine x_then ?_
          refine ⟨⟨120, [(1, .a (fcsA d)), (6, .a (files now)), (7, .a (.v (.int .i64 ((k : Int))))), (8, .a (.v (.pointer (some ⟨(b8), 0, none⟩))))], [⟨(b8), true, .box (FC.cs x)⟩]⟩, ⟨rfl, (Slots.cons rfl (by first | exact .refl _ | exact .nilOwn _ _ | exact .nilSl _ | exact .ownSl _ _ _  | exact SV.le.of_eq (by simp)) (Slots.cons rfl (by first | exact .refl _ | exact .nilOwn _ _ | exact .nilSl _ | exact .ownSl _ _ _  | exact SV.le.of_eq (by simp)) (Slots.cons rfl (by first | exact .refl _ | exact .nilOwn _ _ | exact .nilSl _ | exact .ownSl _ _ _  | exact SV.le.of_eq (by simp)) (Slots.cons rfl (by first | exact .refl _ | exact .nilOwn _ _ | exact .nilSl _ | exact .ownSl _ _ _  | exact SV.le.of_eq (by simp)) Slots.nil)))), (by first | exact List.Sublist.refl _ | exact .cons_cons _ (.cons _ (.refl _)) | exact List.nil_sublist _ | exact .cons _ (.refl _) | exact .cons _ (.cons _ (.refl _)) | exact .cons _ (.cons _ (.cons _ (.refl _))) | exact .cons _ (.cons _ (.cons _ (.cons _ (.refl _)))) | exact .cons_cons _ (List.nil_sublist _))⟩, ⟨b8, rfl, hkr⟩⟩
    ·
      rintro _ ⟨b8, rfl, hkr⟩
      refine awp_seq ?_
      refine awp_region ?_
      refine r_move rfl rfl ?_
      first | (refine r_fieldb rfl TF.f36_1 TF.sz9 rfl ?_) | (refine r_fieldcp rfl TF.f36_1 TF.sz9 rfl ?_)
      refine r_load1b 0 rfl rfl rfl TF.agg9 rfl ?_
      refine r_call0 hq rfl rfl (.cons (.ev rfl rfl) (.cons (.ev rfl rfl) .nil)) (find_ok now x.name (by omega)) rfl TF.en33 rfl (fun r hr => ?_)
      obtain rfl := hr
      refine r_assign rfl rfl ?_
      refine awl_nil ?_
      refine x_then ?_
      refine awp_cut (fun S => ∃ b8 : Nat, S = ⟨120, [(1, .a (fcsA d)), (6, .a (files now)), (7, .a (.v (.int .i64 ((k : Int))))), (8, .a (.v (.pointer (some ⟨b8, 0, none⟩)))), (9, .a (.v (.int .i64 (optI (now.findIdx? (fun f => decide (f.name = x.name)))))))], [⟨b8, true, .box (FC.cs x)⟩]⟩ ∧ (1 ≤ x.kind ∧ x.kind ≤ 4) ∧ (x.kind = 1 → (now.findIdx? (fun f => decide (f.name = x.name))) = none)) ?_ ?_
      ·
        refine awp_seq ?_
        refine awp_region ?_
        first | (refine r_fieldb rfl TF.f36_0 TF.sz3 rfl ?_) | (refine r_fieldcp rfl TF.f36_0 TF.sz3 rfl ?_)
        refine r_load1b 0 rfl rfl rfl TF.agg3 rfl ?_
        refine r_cmp rfl rfl rfl rfl ?_
        refine r_move rfl rfl ?_
        refine g_cases (t' := 40) rfl (fun hg40 => ?_) (fun hg40 => ?_)
        ·
          have hk1 : x.kind = 1 := eq_of_beq hg40
          refine g_run rfl rfl hg40 ?_
          refine r_move rfl rfl ?_
          refine g_run rfl rfl hg40 ?_
          refine r_cmp rfl rfl rfl rfl ?_
          refine r_pickT rfl hg40 rfl rfl ?_
          refine awl_nil ?_
          refine x_then ?_
          refine awp_cond rfl (fun hc2 => ?_) (fun hc2 => ?_)
          ·
            obtain ⟨i, hi⟩ := optI_some (of_decide_eq_true hc2)
            obtain ⟨y, _, _, hlk⟩ := find_some_look hi
            have hst : stepM m x = (5, m) := by simp [stepM, hk1, htn.2, hlk]
            refine awp_seq ?_
            refine awp_region ?_
            refine r_assign rfl rfl ?_
            refine r_assign rfl rfl ?_
            refine awl_nil ?_
            refine x_then ?_
            refine awp_ret ?_
            refine x_thenR ?_
            refine x_blockR ?_
            refine x_thenR ?_
            refine x_thenR ?_
            refine x_blockR ?_
            refine x_thenR ?_
            exact ⟨(.inl rfl), _, [], (.two (by first | exact .mk rfl rfl | exact .nil rfl) (by first | exact .mk rfl rfl | exact .nil rfl)), ⟨rfl, .inr ⟨_, _, (applyM_fail hx hap (by rw [hst]; simp)).trans hst, by decide, rfl⟩⟩, (List.nil_sublist _), (by simp)⟩
          ·
            have hq2 : x.kind = 1 → (now.findIdx? (fun f => decide (f.name = x.name))) = none := by first | exact fun h => absurd h hk1 | exact fun _ => optI_none (by have := of_decide_eq_false hc2; omega)
            refine awp_skip ?_
            refine x_then ?_
            refine ⟨⟨120, [(1, .a (fcsA d)), (6, .a (files now)), (7, .a (.v (.int .i64 ((k : Int))))), (8, .a (.v (.pointer (some ⟨(b8), 0, none⟩)))), (9, .a (.v (.int .i64 (optI (now.findIdx? (fun f => decide (f.name = x.name)))))))], [⟨(b8), true, .box (FC.cs x)⟩]⟩, ⟨rfl, (Slots.cons rfl (by first | exact .refl _ | exact .nilOwn _ _ | exact .nilSl _ | exact .ownSl _ _ _  | exact SV.le.of_eq (by simp)) (Slots.cons rfl (by first | exact .refl _ | exact .nilOwn _ _ | exact .nilSl _ | exact .ownSl _ _ _  | exact SV.le.of_eq (by simp)) (Slots.cons rfl (by first | exact .refl _ | exact .nilOwn _ _ | exact .nilSl _ | exact .ownSl _ _ _  | exact SV.le.of_eq (by simp)) (Slots.cons rfl (by first | exact .refl _ | exact .nilOwn _ _ | exact .nilSl _ | exact .ownSl _ _ _  | exact SV.le.of_eq (by simp)) (Slots.cons rfl (by first | exact .refl _ | exact .nilOwn _ _ | exact .nilSl _ | exact .ownSl _ _ _  | exact SV.le.of_eq (by simp)) Slots.nil))))), (by first | exact List.Sublist.refl _ | exact .cons_cons _ (.cons _ (.refl _)) | exact List.nil_sublist _ | exact .cons _ (.refl _) | exact .cons _ (.cons _ (.refl _)) | exact .cons _ (.cons _ (.cons _ (.refl _))) | exact .cons _ (.cons _ (.cons _ (.cons _ (.refl _)))) | exact .cons_cons _ (List.nil_sublist _))⟩, ⟨b8, rfl, hkr, hq2⟩⟩
        ·
          have hk1 : ¬ x.kind = 1 := by simpa using hg40
          refine g_skip rfl rfl hg40 rfl ?_
          refine g_skip rfl rfl hg40 rfl ?_
          refine r_pickF rfl hg40 rfl rfl ?_
          refine awl_nil ?_
          refine x_then ?_
          refine awp_condF rfl ?_
          have hq2 : x.kind = 1 → (now.findIdx? (fun f => decide (f.name = x.name))) = none := by first | exact fun h => absurd h hk1 | exact fun _ => optI_none (by have := of_decide_eq_false hc2; omega)
          refine awp_skip ?_
          refine x_then ?_
          refine ⟨⟨120, [(1, .a (fcsA d)), (6, .a (files now)), (7, .a (.v (.int .i64 ((k : Int))))), (8, .a (.v (.pointer (some ⟨(b8), 0, none⟩)))), (9, .a (.v (.int .i64 (optI (now.findIdx? (fun f => decide (f.name = x.name)))))))], [⟨(b8), true, .box (FC.cs x)⟩]⟩, ⟨rfl, (Slots.cons rfl (by first | exact .refl _ | exact .nilOwn _ _ | exact .nilSl _ | exact .ownSl _ _ _  | exact SV.le.of_eq (by simp)) (Slots.cons rfl (by first | exact .refl _ | exact .nilOwn _ _ | exact .nilSl _ | exact .ownSl _ _ _  | exact SV.le.of_eq (by simp)) (Slots.cons rfl (by first | exact .refl _ | exact .nilOwn _ _ | exact .nilSl _ | exact .ownSl _ _ _  | exact SV.le.of_eq (by simp)) (Slots.cons rfl (by first | exact .refl _ | exact .nilOwn _ _ | exact .nilSl _ | exact .ownSl _ _ _  | exact SV.le.of_eq (by simp)) (Slots.cons rfl (by first | exact .refl _ | exact .nilOwn _ _ | exact .nilSl _ | exact .ownSl _ _ _  | exact SV.le.of_eq (by simp)) Slots.nil))))), (by first | exact List.Sublist.refl _ | exact .cons_cons _ (.cons _ (.refl _)) | exact List.nil_sublist _ | exact .cons _ (.refl _) | exact .cons _ (.cons _ (.refl _)) | exact .cons _ (.cons _ (.cons _ (.refl _))) | exact .cons _ (.cons _ (.cons _ (.cons _ (.refl _)))) | exact .cons_cons _ (List.nil_sublist _))⟩, ⟨b8, rfl, hkr, hq2⟩⟩
      ·
        rintro _ ⟨b8, rfl, hkr, hq2⟩
        refine awp_cut (fun S => ∃ b8 : Nat, S = ⟨120, [(1, .a (fcsA d)), (6, .a (files now)), (7, .a (.v (.int .i64 ((k : Int))))), (8, .a (.v (.pointer (some ⟨b8, 0, none⟩)))), (9, .a (.v (.int .i64 (optI (now.findIdx? (fun f => decide (f.name = x.name)))))))], [⟨b8, true, .box (FC.cs x)⟩]⟩ ∧ (1 ≤ x.kind ∧ x.kind ≤ 4) ∧ (x.kind = 1 → (now.findIdx? (fun f => decide (f.name = x.name))) = none) ∧ (¬ x.kind = 1 → ∃ i, (now.findIdx? (fun f => decide (f.name = x.name))) = some i)) ?_ ?_
        ·
          refine awp_seq ?_
          refine awp_region ?_
          first | (refine r_fieldb rfl TF.f36_0 TF.sz3 rfl ?_) | (refine r_fieldcp rfl TF.f36_0 TF.sz3 rfl ?_)
          refine r_load1b 0 rfl rfl rfl TF.agg3 rfl ?_
          refine r_cmp rfl rfl rfl rfl ?_
          refine r_move rfl rfl ?_
          refine g_cases (t' := 47) rfl (fun hg47 => ?_) (fun hg47 => ?_)
          ·
            have hk1 : ¬ x.kind = 1 := by simpa using hg47
            refine g_run rfl rfl hg47 ?_
            refine r_move rfl rfl ?_
            refine g_run rfl rfl hg47 ?_
            refine r_cmp rfl rfl rfl rfl ?_
            refine r_pickT rfl hg47 rfl rfl ?_
            refine awl_nil ?_
            refine x_then ?_
            refine awp_cond rfl (fun hc3 => ?_) (fun hc3 => ?_)
            ·
              have hnn := find_none_look (optI_none (of_decide_eq_true hc3))
              have hst : stepM m x = (4, m) := by
                have hk : x.kind = 2 ∨ x.kind = 3 ∨ x.kind = 4 := by omega
                simp [stepM, hk1, hk, htn.2, hnn]
              refine awp_seq ?_
              refine awp_region ?_
              refine r_assign rfl rfl ?_
              refine r_assign rfl rfl ?_
              refine awl_nil ?_
              refine x_then ?_
              refine awp_ret ?_
              refine x_thenR ?_
              refine x_blockR ?_
              refine x_thenR ?_
              refine x_thenR ?_
              refine x_blockR ?_
              refine x_thenR ?_
              exact ⟨(.inl rfl), _, [], (.two (by first | exact .mk rfl rfl | exact .nil rfl) (by first | exact .mk rfl rfl | exact .nil rfl)), ⟨rfl, .inr ⟨_, _, (applyM_fail hx hap (by rw [hst]; simp)).trans hst, by decide, rfl⟩⟩, (List.nil_sublist _), (by simp)⟩
            ·
              have hq3 : ¬ x.kind = 1 → ∃ i, (now.findIdx? (fun f => decide (f.name = x.name))) = some i := by first | exact fun h => absurd hk1 h | exact fun _ => optI_some (by have := of_decide_eq_false hc3; omega)
              refine awp_skip ?_
              refine x_then ?_
              refine ⟨⟨120, [(1, .a (fcsA d)), (6, .a (files now)), (7, .a (.v (.int .i64 ((k : Int))))), (8, .a (.v (.pointer (some ⟨(b8), 0, none⟩)))), (9, .a (.v (.int .i64 (optI (now.findIdx? (fun f => decide (f.name = x.name)))))))], [⟨(b8), true, .box (FC.cs x)⟩]⟩, ⟨rfl, (Slots.cons rfl (by first | exact .refl _ | exact .nilOwn _ _ | exact .nilSl _ | exact .ownSl _ _ _  | exact SV.le.of_eq (by simp)) (Slots.cons rfl (by first | exact .refl _ | exact .nilOwn _ _ | exact .nilSl _ | exact .ownSl _ _ _  | exact SV.le.of_eq (by simp)) (Slots.cons rfl (by first | exact .refl _ | exact .nilOwn _ _ | exact .nilSl _ | exact .ownSl _ _ _  | exact SV.le.of_eq (by simp)) (Slots.cons rfl (by first | exact .refl _ | exact .nilOwn _ _ | exact .nilSl _ | exact .ownSl _ _ _  | exact SV.le.of_eq (by simp)) (Slots.cons rfl (by first | exact .refl _ | exact .nilOwn _ _ | exact .nilSl _ | exact .ownSl _ _ _  | exact SV.le.of_eq (by simp)) Slots.nil))))), (by first | exact List.Sublist.refl _ | exact .cons_cons _ (.cons _ (.refl _)) | exact List.nil_sublist _ | exact .cons _ (.refl _) | exact .cons _ (.cons _ (.refl _)) | exact .cons _ (.cons _ (.cons _ (.refl _))) | exact .cons _ (.cons _ (.cons _ (.cons _ (.refl _)))) | exact .cons_cons _ (List.nil_sublist _))⟩, ⟨b8, rfl, hkr, hq2, hq3⟩⟩
          ·
            have hk1 : x.kind = 1 := by simpa using hg47
            refine g_skip rfl rfl hg47 rfl ?_
            refine g_skip rfl rfl hg47 rfl ?_
            refine r_pickF rfl hg47 rfl rfl ?_
            refine awl_nil ?_
            refine x_then ?_
            refine awp_condF rfl ?_
            have hq3 : ¬ x.kind = 1 → ∃ i, (now.findIdx? (fun f => decide (f.name = x.name))) = some i := by first | exact fun h => absurd hk1 h | exact fun _ => optI_some (by have := of_decide_eq_false hc3; omega)
            refine awp_skip ?_
            refine x_then ?_
            refine ⟨⟨120, [(1, .a (fcsA d)), (6, .a (files now)), (7, .a (.v (.int .i64 ((k : Int))))), (8, .a (.v (.pointer (some ⟨(b8), 0, none⟩)))), (9, .a (.v (.int .i64 (optI (now.findIdx? (fun f => decide (f.name = x.name)))))))], [⟨(b8), true, .box (FC.cs x)⟩]⟩, ⟨rfl, (Slots.cons rfl (by first | exact .refl _ | exact .nilOwn _ _ | exact .nilSl _ | exact .ownSl _ _ _  | exact SV.le.of_eq (by simp)) (Slots.cons rfl (by first | exact .refl _ | exact .nilOwn _ _ | exact .nilSl _ | exact .ownSl _ _ _  | exact SV.le.of_eq (by simp)) (Slots.cons rfl (by first | exact .refl _ | exact .nilOwn _ _ | exact .nilSl _ | exact .ownSl _ _ _  | exact SV.le.of_eq (by simp)) (Slots.cons rfl (by first | exact .refl _ | exact .nilOwn _ _ | exact .nilSl _ | exact .ownSl _ _ _  | exact SV.le.of_eq (by simp)) (Slots.cons rfl (by first | exact .refl _ | exact .nilOwn _ _ | exact .nilSl _ | exact .ownSl _ _ _  | exact SV.le.of_eq (by simp)) Slots.nil))))), (by first | exact List.Sublist.refl _ | exact .cons_cons _ (.cons _ (.refl _)) | exact List.nil_sublist _ | exact .cons _ (.refl _) | exact .cons _ (.cons _ (.refl _)) | exact .cons _ (.cons _ (.cons _ (.refl _))) | exact .cons _ (.cons _ (.cons _ (.cons _ (.refl _)))) | exact .cons_cons _ (List.nil_sublist _))⟩, ⟨b8, rfl, hkr, hq2, hq3⟩⟩
        ·
          rintro _ ⟨b8, rfl, hkr, hq2, hq3⟩
          refine awp_cut (fun S => ∃ b8 : Nat, S = ⟨120, [(1, .a (fcsA d)), (6, .a (files now)), (7, .a (.v (.int .i64 ((k : Int))))), (8, .a (.v (.pointer (some ⟨b8, 0, none⟩)))), (9, .a (.v (.int .i64 (optI (now.findIdx? (fun f => decide (f.name = x.name)))))))], [⟨b8, true, .box (FC.cs x)⟩]⟩ ∧ (1 ≤ x.kind ∧ x.kind ≤ 4) ∧ (x.kind = 1 → (now.findIdx? (fun f => decide (f.name = x.name))) = none) ∧ (¬ x.kind = 1 → ∃ i, (now.findIdx? (fun f => decide (f.name = x.name))) = some i) ∧ (x.kind = 4 → (now.findIdx? (fun f => decide (f.name = x.to))) = none)) ?_ ?_
          ·
            refine awp_seq ?_
            refine awp_region ?_
            first | (refine r_fieldb rfl TF.f36_0 TF.sz3 rfl ?_) | (refine r_fieldcp rfl TF.f36_0 TF.sz3 rfl ?_)
            refine r_load1b 0 rfl rfl rfl TF.agg3 rfl ?_
            refine r_cmp rfl rfl rfl rfl ?_
            refine r_move rfl rfl ?_
            refine g_cases (t' := 54) rfl (fun hg54 => ?_) (fun hg54 => ?_)
            ·
              have hk4 : x.kind = 4 := eq_of_beq hg54
              refine g_run rfl rfl hg54 ?_
              refine r_move rfl rfl ?_
              refine g_run rfl rfl hg54 ?_
              first | (refine r_fieldb rfl TF.f36_2 TF.sz9 rfl ?_) | (refine r_fieldcp rfl TF.f36_2 TF.sz9 rfl ?_)
              refine g_run rfl rfl hg54 ?_
              refine r_load1b 0 rfl rfl rfl TF.agg9 rfl ?_
              refine g_run rfl rfl hg54 ?_
              refine r_call0 hq rfl rfl (.cons (.ev rfl rfl) (.cons (.ev rfl rfl) .nil)) (find_ok now x.to (by omega)) rfl TF.en33 rfl (fun r hr => ?_)
              obtain rfl := hr
              refine g_run rfl rfl hg54 ?_
              refine r_cmp rfl rfl rfl rfl ?_
              refine r_pickT rfl hg54 rfl rfl ?_
              refine awl_nil ?_
              refine x_then ?_
              refine awp_cond rfl (fun hc4 => ?_) (fun hc4 => ?_)
              ·
                obtain ⟨i, hi⟩ := optI_some (of_decide_eq_true hc4)
                obtain ⟨y, _, _, hlk⟩ := find_some_look hi
                obtain ⟨i2, hi2⟩ := hq3 (by omega)
                obtain ⟨y2, _, _, hlk2⟩ := find_some_look hi2
                have hst : stepM m x = (5, m) := by simp [stepM, alterM, hk4, htn.2, hlk, hlk2]
                refine awp_seq ?_
                refine awp_region ?_
                refine r_assign rfl rfl ?_
                refine r_assign rfl rfl ?_
                refine awl_nil ?_
                refine x_then ?_
                refine awp_ret ?_
                refine x_thenR ?_
                refine x_blockR ?_
                refine x_thenR ?_
                refine x_thenR ?_
                refine x_blockR ?_
                refine x_thenR ?_
                exact ⟨(.inl rfl), _, [], (.two (by first | exact .mk rfl rfl | exact .nil rfl) (by first | exact .mk rfl rfl | exact .nil rfl)), ⟨rfl, .inr ⟨_, _, (applyM_fail hx hap (by rw [hst]; simp)).trans hst, by decide, rfl⟩⟩, (List.nil_sublist _), (by simp)⟩
              ·
                have hq4 : x.kind = 4 → (now.findIdx? (fun f => decide (f.name = x.to))) = none := by first | exact fun h => absurd h hk4 | exact fun _ => optI_none (by have := of_decide_eq_false hc4; omega)
                refine awp_skip ?_
                refine x_then ?_
                refine ⟨⟨120, [(1, .a (fcsA d)), (6, .a (files now)), (7, .a (.v (.int .i64 ((k : Int))))), (8, .a (.v (.pointer (some ⟨(b8), 0, none⟩)))), (9, .a (.v (.int .i64 (optI (now.findIdx? (fun f => decide (f.name = x.name)))))))], [⟨(b8), true, .box (FC.cs x)⟩]⟩, ⟨rfl, (Slots.cons rfl (by first | exact .refl _ | exact .nilOwn _ _ | exact .nilSl _ | exact .ownSl _ _ _  | exact SV.le.of_eq (by simp)) (Slots.cons rfl (by first | exact .refl _ | exact .nilOwn _ _ | exact .nilSl _ | exact .ownSl _ _ _  | exact SV.le.of_eq (by simp)) (Slots.cons rfl (by first | exact .refl _ | exact .nilOwn _ _ | exact .nilSl _ | exact .ownSl _ _ _  | exact SV.le.of_eq (by simp)) (Slots.cons rfl (by first | exact .refl _ | exact .nilOwn _ _ | exact .nilSl _ | exact .ownSl _ _ _  | exact SV.le.of_eq (by simp)) (Slots.cons rfl (by first | exact .refl _ | exact .nilOwn _ _ | exact .nilSl _ | exact .ownSl _ _ _  | exact SV.le.of_eq (by simp)) Slots.nil))))), (by first | exact List.Sublist.refl _ | exact .cons_cons _ (.cons _ (.refl _)) | exact List.nil_sublist _ | exact .cons _ (.refl _) | exact .cons _ (.cons _ (.refl _)) | exact .cons _ (.cons _ (.cons _ (.refl _))) | exact .cons _ (.cons _ (.cons _ (.cons _ (.refl _)))) | exact .cons_cons _ (List.nil_sublist _))⟩, ⟨b8, rfl, hkr, hq2, hq3, hq4⟩⟩
            ·
              have hk4 : ¬ x.kind = 4 := by simpa using hg54
              refine g_skip rfl rfl hg54 rfl ?_
              refine g_skip rfl rfl hg54 rfl ?_
              refine g_skip rfl rfl hg54 rfl ?_
              refine g_skip rfl rfl hg54 rfl ?_
              refine g_skip rfl rfl hg54 rfl ?_
              refine r_pickF rfl hg54 rfl rfl ?_
              refine awl_nil ?_
              refine x_then ?_
              refine awp_condF rfl ?_
              have hq4 : x.kind = 4 → (now.findIdx? (fun f => decide (f.name = x.to))) = none := by first | exact fun h => absurd h hk4 | exact fun _ => optI_none (by have := of_decide_eq_false hc4; omega)
              refine awp_skip ?_
              refine x_then ?_
              refine ⟨⟨120, [(1, .a (fcsA d)), (6, .a (files now)), (7, .a (.v (.int .i64 ((k : Int))))), (8, .a (.v (.pointer (some ⟨(b8), 0, none⟩)))), (9, .a (.v (.int .i64 (optI (now.findIdx? (fun f => decide (f.name = x.name)))))))], [⟨(b8), true, .box (FC.cs x)⟩]⟩, ⟨rfl, (Slots.cons rfl (by first | exact .refl _ | exact .nilOwn _ _ | exact .nilSl _ | exact .ownSl _ _ _  | exact SV.le.of_eq (by simp)) (Slots.cons rfl (by first | exact .refl _ | exact .nilOwn _ _ | exact .nilSl _ | exact .ownSl _ _ _  | exact SV.le.of_eq (by simp)) (Slots.cons rfl (by first | exact .refl _ | exact .nilOwn _ _ | exact .nilSl _ | exact .ownSl _ _ _  | exact SV.le.of_eq (by simp)) (Slots.cons rfl (by first | exact .refl _ | exact .nilOwn _ _ | exact .nilSl _ | exact .ownSl _ _ _  | exact SV.le.of_eq (by simp)) (Slots.cons rfl (by first | exact .refl _ | exact .nilOwn _ _ | exact .nilSl _ | exact .ownSl _ _ _  | exact SV.le.of_eq (by simp)) Slots.nil))))), (by first | exact List.Sublist.refl _ | exact .cons_cons _ (.cons _ (.refl _)) | exact List.nil_sublist _ | exact .cons _ (.refl _) | exact .cons _ (.cons _ (.refl _)) | exact .cons _ (.cons _ (.cons _ (.refl _))) | exact .cons _ (.cons _ (.cons _ (.cons _ (.refl _)))) | exact .cons_cons _ (List.nil_sublist _))⟩, ⟨b8, rfl, hkr, hq2, hq3, hq4⟩⟩
          ·
            rintro _ ⟨b8, rfl, hkr, hq2, hq3, hq4⟩
            have h0 := stepR_ok htn hkr hq2 hq3 hq4
            have htl := tells_stepR htn hnd h0
            refine awp_seq ?_
            refine awp_region ?_
            refine r_lit 61 (parts := []) rfl TF.sl22 TF.sz54 TF.zraw54 rfl rfl rfl rfl rfl rfl rfl ?_
            refine r_assign rfl rfl ?_
            refine awl_nil ?_
            refine x_then ?_
            refine awp_seq ?_
            refine awp_seq ?_
            refine awp_region ?_
            refine r_assign rfl rfl ?_
            refine awl_nil ?_
            refine x_then ?_
            refine awp_block ?_
            refine awp_loop (fun nn0 S => ∃ j : Nat, S = ⟨120, [(1, .a (fcsA d)), (6, .a (files now)), (7, .a (.v (.int .i64 ((k : Int))))), (8, .a (.v (.pointer (some ⟨b8, 0, none⟩)))), (9, .a (.v (.int .i64 (optI (now.findIdx? (fun f => decide (f.name = x.name))))))), (10, .own 61 2 ((nextR now x (now.findIdx? (fun f => decide (f.name = x.name))) j).map File.cs)), (11, .a (.v (.int .i64 ((j : Int)))))], [⟨b8, true, .box (FC.cs x)⟩]⟩ ∧ nn0 = now.length - j ∧ (j ≤ now.length)) (now.length - (0)) ⟨120, [(1, .a (fcsA d)), (6, .a (files now)), (7, .a (.v (.int .i64 ((k : Int))))), (8, .a (.v (.pointer (some ⟨b8, 0, none⟩)))), (9, .a (.v (.int .i64 (optI (now.findIdx? (fun f => decide (f.name = x.name))))))), (10, .own 61 2 ((nextR now x (now.findIdx? (fun f => decide (f.name = x.name))) (0)).map File.cs)), (11, .a (.v (.int .i64 (((0) : Int)))))], [⟨b8, true, .box (FC.cs x)⟩]⟩ ⟨rfl, (Slots.cons rfl (by first | exact .refl _ | exact .nilOwn _ _ | exact .nilSl _ | exact .ownSl _ _ _  | exact SV.le.of_eq (by simp)) (Slots.cons rfl (by first | exact .refl _ | exact .nilOwn _ _ | exact .nilSl _ | exact .ownSl _ _ _  | exact SV.le.of_eq (by simp)) (Slots.cons rfl (by first | exact .refl _ | exact .nilOwn _ _ | exact .nilSl _ | exact .ownSl _ _ _  | exact SV.le.of_eq (by simp)) (Slots.cons rfl (by first | exact .refl _ | exact .nilOwn _ _ | exact .nilSl _ | exact .ownSl _ _ _  | exact SV.le.of_eq (by simp)) (Slots.cons rfl (by first | exact .refl _ | exact .nilOwn _ _ | exact .nilSl _ | exact .ownSl _ _ _  | exact SV.le.of_eq (by simp)) (Slots.cons rfl (by first | exact .refl _ | exact .nilOwn _ _ | exact .nilSl _ | exact .ownSl _ _ _  | exact SV.le.of_eq (by simp)) (Slots.cons rfl (by first | exact .refl _ | exact .nilOwn _ _ | exact .nilSl _ | exact .ownSl _ _ _  | exact SV.le.of_eq (by simp)) Slots.nil))))))), (by first | exact List.Sublist.refl _ | exact .cons_cons _ (.cons _ (.refl _)) | exact List.nil_sublist _ | exact .cons _ (.refl _) | exact .cons _ (.cons _ (.refl _)) | exact .cons _ (.cons _ (.cons _ (.refl _))) | exact .cons _ (.cons _ (.cons _ (.cons _ (.refl _)))) | exact .cons_cons _ (List.nil_sublist _))⟩ ⟨0, rfl, rfl, Nat.zero_le _⟩ ?_
            rintro nn0 _ ⟨j, rfl, rfl, hj0⟩
            refine awp_seq ?_
            refine awp_seq ?_
            refine awp_region ?_
            refine r_move rfl rfl ?_
            refine r_move rfl rfl ?_
            first | (refine r_lenS rfl rfl TF.sl22 rfl ?_) | (refine r_lenNil rfl TF.sl22 rfl ?_) | (refine r_lenV rfl TF.sl22 rfl ?_)
            refine r_cmp rfl rfl rfl rfl ?_
            refine awl_nil ?_
            refine x_then ?_
            refine awp_cond rfl (fun hc5 => ?_) (fun hc5 => ?_)
            ·
              have hlty : j < now.length := by have := of_decide_eq_true hc5; simpa using this
              obtain ⟨y, hy⟩ := get_lt hlty
              have hnxl := nextR_len (now := now) (c := x) (at_ := (now.findIdx? (fun f => decide (f.name = x.name)))) (k := j)
              refine awp_skip ?_
              refine x_then ?_
              refine awp_seq ?_
              refine awp_block ?_
              refine awp_seq ?_
              refine awp_region ?_
              refine r_move rfl rfl ?_
              refine r_move rfl rfl ?_
              refine r_index rfl rfl rfl TF.sl22 TF.sz54 (by omega) (get_map hy) rfl ?_
              first | (refine r_loadA rfl TF.agg54 TF.sz54 rfl rfl ?_) | (refine r_loadAb 0 rfl rfl TF.agg54 TF.sz54 rfl rfl ?_)
              refine r_alloc TF.zero54 rfl (fun b12 => ?_)
              first | (refine r_store 0 rfl rfl rfl TF.sz54 rfl rfl rfl ?_) | (refine r_store 1 rfl rfl rfl TF.sz54 rfl rfl rfl ?_)
              refine awl_nil ?_
              refine x_then ?_
              refine awp_seq ?_
              refine awp_seq ?_
              rcases Decidable.em (some j = (now.findIdx? (fun f => decide (f.name = x.name)))) with hj | hj
              ·
                have hjb := at_hit hj
                have hih := item_hit (c := x) (y := y) hj
                refine awp_region ?_
                refine r_move rfl rfl ?_
                refine r_move rfl rfl ?_
                refine r_cmp rfl rfl rfl rfl ?_
                refine r_move rfl rfl ?_
                refine g_run rfl rfl hjb ?_
                first | (refine r_fieldb rfl TF.f36_0 TF.sz3 rfl ?_) | (refine r_fieldcp rfl TF.f36_0 TF.sz3 rfl ?_)
                refine g_run rfl rfl hjb ?_
                first | (refine r_load1b 0 rfl rfl rfl TF.agg3 rfl ?_) | (refine r_load1 rfl TF.agg3 rfl ?_) | (refine r_load1b 1 rfl rfl rfl TF.agg3 rfl ?_)
                refine g_run rfl rfl hjb ?_
                refine r_cmp rfl rfl rfl rfl ?_
                refine r_pickT rfl hjb rfl rfl ?_
                refine awl_nil ?_
                refine x_then ?_
                refine awp_cond rfl (fun hc6 => ?_) (fun hc6 => ?_)
                ·
                  have hk2 : x.kind = 2 := eq_of_beq hc6
                  have hiv := hih.trans (if_pos hk2)
                  refine awp_exit ?_
                  refine x_thenE ?_
                  refine x_blockE ?_
                  refine x_then ?_
                  refine awp_region ?_
                  refine r_move rfl rfl ?_
                  refine r_ari _ rfl rfl rfl (wrap_id (by first | omega | (simp; omega))) rfl ?_
                  refine r_assign rfl rfl ?_
                  refine awl_nil ?_
                  refine x_then ?_
                  have hns := nextR_step (c := x) (at_ := (now.findIdx? (fun f => decide (f.name = x.name)))) hy
                  rw [hiv] at hns
                  refine ⟨now.length - (j + 1), ⟨120, [(1, .a (fcsA d)), (6, .a (files now)), (7, .a (.v (.int .i64 ((k : Int))))), (8, .a (.v (.pointer (some ⟨b8, 0, none⟩)))), (9, .a (.v (.int .i64 (optI (now.findIdx? (fun f => decide (f.name = x.name))))))), (10, .own 61 2 ((nextR now x (now.findIdx? (fun f => decide (f.name = x.name))) (j + 1)).map File.cs)), (11, .a (.v (.int .i64 (((j + 1) : Int)))))], [⟨b8, true, .box (FC.cs x)⟩]⟩, ⟨rfl, (Slots.cons rfl (by first | exact .refl _ | exact .nilOwn _ _ | exact .nilSl _ | exact .ownSl _ _ _  | exact SV.le.ownEq (by first | rfl | (rw [hns, Option.toList_some, List.map_append]; rfl) | (rw [hns, Option.toList_none, List.append_nil])) | exact SV.le.of_eq (by first | rfl | (rw [hns, Option.toList_some, List.map_append]; rfl) | (rw [hns, Option.toList_none, List.append_nil]))) (Slots.cons rfl (by first | exact .refl _ | exact .nilOwn _ _ | exact .nilSl _ | exact .ownSl _ _ _  | exact SV.le.ownEq (by first | rfl | (rw [hns, Option.toList_some, List.map_append]; rfl) | (rw [hns, Option.toList_none, List.append_nil])) | exact SV.le.of_eq (by first | rfl | (rw [hns, Option.toList_some, List.map_append]; rfl) | (rw [hns, Option.toList_none, List.append_nil]))) (Slots.cons rfl (by first | exact .refl _ | exact .nilOwn _ _ | exact .nilSl _ | exact .ownSl _ _ _  | exact SV.le.ownEq (by first | rfl | (rw [hns, Option.toList_some, List.map_append]; rfl) | (rw [hns, Option.toList_none, List.append_nil])) | exact SV.le.of_eq (by first | rfl | (rw [hns, Option.toList_some, List.map_append]; rfl) | (rw [hns, Option.toList_none, List.append_nil]))) (Slots.cons rfl (by first | exact .refl _ | exact .nilOwn _ _ | exact .nilSl _ | exact .ownSl _ _ _  | exact SV.le.ownEq (by first | rfl | (rw [hns, Option.toList_some, List.map_append]; rfl) | (rw [hns, Option.toList_none, List.append_nil])) | exact SV.le.of_eq (by first | rfl | (rw [hns, Option.toList_some, List.map_append]; rfl) | (rw [hns, Option.toList_none, List.append_nil]))) (Slots.cons rfl (by first | exact .refl _ | exact .nilOwn _ _ | exact .nilSl _ | exact .ownSl _ _ _  | exact SV.le.ownEq (by first | rfl | (rw [hns, Option.toList_some, List.map_append]; rfl) | (rw [hns, Option.toList_none, List.append_nil])) | exact SV.le.of_eq (by first | rfl | (rw [hns, Option.toList_some, List.map_append]; rfl) | (rw [hns, Option.toList_none, List.append_nil]))) (Slots.cons rfl (by first | exact .refl _ | exact .nilOwn _ _ | exact .nilSl _ | exact .ownSl _ _ _  | exact SV.le.ownEq (by first | rfl | (rw [hns, Option.toList_some, List.map_append]; rfl) | (rw [hns, Option.toList_none, List.append_nil])) | exact SV.le.of_eq (by first | rfl | (rw [hns, Option.toList_some, List.map_append]; rfl) | (rw [hns, Option.toList_none, List.append_nil]))) (Slots.cons rfl (by first | exact .refl _ | exact .nilOwn _ _ | exact .nilSl _ | exact .ownSl _ _ _  | exact SV.le.ownEq (by first | rfl | (rw [hns, Option.toList_some, List.map_append]; rfl) | (rw [hns, Option.toList_none, List.append_nil])) | exact SV.le.of_eq (by first | rfl | (rw [hns, Option.toList_some, List.map_append]; rfl) | (rw [hns, Option.toList_none, List.append_nil]))) Slots.nil))))))), (by first | exact List.Sublist.refl _ | exact .cons_cons _ (.cons _ (.refl _)) | exact List.nil_sublist _ | exact .cons _ (.refl _) | exact .cons _ (.cons _ (.refl _)) | exact .cons _ (.cons _ (.cons _ (.refl _))) | exact .cons _ (.cons _ (.cons _ (.cons _ (.refl _)))) | exact .cons_cons _ (List.nil_sublist _))⟩, (by omega), ⟨j + 1, rfl, rfl, (by omega)⟩⟩
                ·
                  have hk2 : ¬ x.kind = 2 := by simpa using hc6
                  refine awp_skip ?_
                  refine x_then ?_
                  refine awp_seq ?_
                  refine awp_seq ?_
                  refine awp_region ?_
                  refine r_move rfl rfl ?_
                  refine r_move rfl rfl ?_
                  refine r_cmp rfl rfl rfl rfl ?_
                  refine r_move rfl rfl ?_
                  refine g_run rfl rfl hjb ?_
                  first | (refine r_fieldb rfl TF.f36_0 TF.sz3 rfl ?_) | (refine r_fieldcp rfl TF.f36_0 TF.sz3 rfl ?_)
                  refine g_run rfl rfl hjb ?_
                  first | (refine r_load1b 0 rfl rfl rfl TF.agg3 rfl ?_) | (refine r_load1 rfl TF.agg3 rfl ?_) | (refine r_load1b 1 rfl rfl rfl TF.agg3 rfl ?_)
                  refine g_run rfl rfl hjb ?_
                  refine r_cmp rfl rfl rfl rfl ?_
                  refine r_pickT rfl hjb rfl rfl ?_
                  refine awl_nil ?_
                  refine x_then ?_
                  refine awp_cond rfl (fun hc7 => ?_) (fun hc7 => ?_)
                  ·
                    have hk3 : x.kind = 3 := eq_of_beq hc7
                    have hiv := (hih.trans (if_neg hk2)).trans (if_pos hk3)
                    refine awp_region ?_
                    first | (refine r_fieldb rfl TF.f36_3 TF.sz34 rfl ?_) | (refine r_fieldcp rfl TF.f36_3 TF.sz34 rfl ?_)
                    first | (refine r_load1b 0 rfl rfl rfl TF.agg34 rfl ?_) | (refine r_load1 rfl TF.agg34 rfl ?_) | (refine r_load1b 1 rfl rfl rfl TF.agg34 rfl ?_)
                    first | (refine r_fieldb rfl TF.f54_1 TF.sz34 rfl ?_) | (refine r_fieldcp rfl TF.f54_1 TF.sz34 rfl ?_)
                    first | (refine r_store 0 rfl rfl rfl TF.sz34 rfl rfl rfl ?_) | (refine r_store 1 rfl rfl rfl TF.sz34 rfl rfl rfl ?_)
                    refine awl_nil ?_
                    refine x_then ?_
                    refine awp_seq ?_
                    refine awp_seq ?_
                    refine awp_region ?_
                    refine r_move rfl rfl ?_
                    refine r_move rfl rfl ?_
                    refine r_cmp rfl rfl rfl rfl ?_
                    refine r_move rfl rfl ?_
                    refine g_run rfl rfl hjb ?_
                    first | (refine r_fieldb rfl TF.f36_0 TF.sz3 rfl ?_) | (refine r_fieldcp rfl TF.f36_0 TF.sz3 rfl ?_)
                    refine g_run rfl rfl hjb ?_
                    first | (refine r_load1b 0 rfl rfl rfl TF.agg3 rfl ?_) | (refine r_load1 rfl TF.agg3 rfl ?_) | (refine r_load1b 1 rfl rfl rfl TF.agg3 rfl ?_)
                    refine g_run rfl rfl hjb ?_
                    refine r_cmp rfl rfl rfl rfl ?_
                    refine r_pickT rfl hjb rfl rfl ?_
                    refine awl_nil ?_
                    refine x_then ?_
                    refine awp_cond rfl (fun hc8 => ?_) (fun hc8 => ?_)
                    ·
                      exfalso; rw [hk3] at hc8; cases hc8
                    ·
                      refine awp_skip ?_
                      refine x_then ?_
                      refine awp_region ?_
                      refine r_move rfl rfl ?_
                      refine r_loadAb 0 rfl rfl TF.agg54 TF.sz54 rfl rfl ?_
                      refine r_lit 104 (parts := [(0, .tmp 103)]) rfl TF.sl22 TF.sz54 TF.zraw54 rfl rfl rfl rfl rfl rfl rfl ?_
                      refine r_append 61 rfl (by first | exact .own _ | exact .nil) rfl (by first | exact .sl _ | exact .own _ _ | exact .nil) TF.sl22 TF.sz54 (by decide) TF.by54 TF.zlen54 (by simp [chunks] <;> omega) (by simp [chunks] <;> omega) rfl ?_
                      refine r_assign rfl rfl ?_
                      refine awl_nil ?_
                      refine x_block ?_
                      refine x_then ?_
                      refine awp_region ?_
                      refine r_move rfl rfl ?_
                      refine r_ari _ rfl rfl rfl (wrap_id (by first | omega | (simp; omega))) rfl ?_
                      refine r_assign rfl rfl ?_
                      refine awl_nil ?_
                      refine x_then ?_
                      have hns := nextR_step (c := x) (at_ := (now.findIdx? (fun f => decide (f.name = x.name)))) hy
                      rw [hiv] at hns
                      refine ⟨now.length - (j + 1), ⟨120, [(1, .a (fcsA d)), (6, .a (files now)), (7, .a (.v (.int .i64 ((k : Int))))), (8, .a (.v (.pointer (some ⟨b8, 0, none⟩)))), (9, .a (.v (.int .i64 (optI (now.findIdx? (fun f => decide (f.name = x.name))))))), (10, .own 61 2 ((nextR now x (now.findIdx? (fun f => decide (f.name = x.name))) (j + 1)).map File.cs)), (11, .a (.v (.int .i64 (((j + 1) : Int)))))], [⟨b8, true, .box (FC.cs x)⟩]⟩, ⟨rfl, (Slots.cons rfl (by first | exact .refl _ | exact .nilOwn _ _ | exact .nilSl _ | exact .ownSl _ _ _  | exact SV.le.ownEq (by first | rfl | (rw [hns, Option.toList_some, List.map_append]; rfl) | (rw [hns, Option.toList_none, List.append_nil])) | exact SV.le.of_eq (by first | rfl | (rw [hns, Option.toList_some, List.map_append]; rfl) | (rw [hns, Option.toList_none, List.append_nil]))) (Slots.cons rfl (by first | exact .refl _ | exact .nilOwn _ _ | exact .nilSl _ | exact .ownSl _ _ _  | exact SV.le.ownEq (by first | rfl | (rw [hns, Option.toList_some, List.map_append]; rfl) | (rw [hns, Option.toList_none, List.append_nil])) | exact SV.le.of_eq (by first | rfl | (rw [hns, Option.toList_some, List.map_append]; rfl) | (rw [hns, Option.toList_none, List.append_nil]))) (Slots.cons rfl (by first | exact .refl _ | exact .nilOwn _ _ | exact .nilSl _ | exact .ownSl _ _ _  | exact SV.le.ownEq (by first | rfl | (rw [hns, Option.toList_some, List.map_append]; rfl) | (rw [hns, Option.toList_none, List.append_nil])) | exact SV.le.of_eq (by first | rfl | (rw [hns, Option.toList_some, List.map_append]; rfl) | (rw [hns, Option.toList_none, List.append_nil]))) (Slots.cons rfl (by first | exact .refl _ | exact .nilOwn _ _ | exact .nilSl _ | exact .ownSl _ _ _  | exact SV.le.ownEq (by first | rfl | (rw [hns, Option.toList_some, List.map_append]; rfl) | (rw [hns, Option.toList_none, List.append_nil])) | exact SV.le.of_eq (by first | rfl | (rw [hns, Option.toList_some, List.map_append]; rfl) | (rw [hns, Option.toList_none, List.append_nil]))) (Slots.cons rfl (by first | exact .refl _ | exact .nilOwn _ _ | exact .nilSl _ | exact .ownSl _ _ _  | exact SV.le.ownEq (by first | rfl | (rw [hns, Option.toList_some, List.map_append]; rfl) | (rw [hns, Option.toList_none, List.append_nil])) | exact SV.le.of_eq (by first | rfl | (rw [hns, Option.toList_some, List.map_append]; rfl) | (rw [hns, Option.toList_none, List.append_nil]))) (Slots.cons rfl (by first | exact .refl _ | exact .nilOwn _ _ | exact .nilSl _ | exact .ownSl _ _ _  | exact SV.le.ownEq (by first | rfl | (rw [hns, Option.toList_some, List.map_append]; rfl) | (rw [hns, Option.toList_none, List.append_nil])) | exact SV.le.of_eq (by first | rfl | (rw [hns, Option.toList_some, List.map_append]; rfl) | (rw [hns, Option.toList_none, List.append_nil]))) (Slots.cons rfl (by first | exact .refl _ | exact .nilOwn _ _ | exact .nilSl _ | exact .ownSl _ _ _  | exact SV.le.ownEq (by first | rfl | (rw [hns, Option.toList_some, List.map_append]; rfl) | (rw [hns, Option.toList_none, List.append_nil])) | exact SV.le.of_eq (by first | rfl | (rw [hns, Option.toList_some, List.map_append]; rfl) | (rw [hns, Option.toList_none, List.append_nil]))) Slots.nil))))))), (by first | exact List.Sublist.refl _ | exact .cons_cons _ (.cons _ (.refl _)) | exact List.nil_sublist _ | exact .cons _ (.refl _) | exact .cons _ (.cons _ (.refl _)) | exact .cons _ (.cons _ (.cons _ (.refl _))) | exact .cons _ (.cons _ (.cons _ (.cons _ (.refl _)))) | exact .cons_cons _ (List.nil_sublist _))⟩, (by omega), ⟨j + 1, rfl, rfl, (by omega)⟩⟩
                  ·
                    have hk3 : ¬ x.kind = 3 := by simpa using hc7
                    refine awp_skip ?_
                    refine x_then ?_
                    refine awp_seq ?_
                    refine awp_seq ?_
                    refine awp_region ?_
                    refine r_move rfl rfl ?_
                    refine r_move rfl rfl ?_
                    refine r_cmp rfl rfl rfl rfl ?_
                    refine r_move rfl rfl ?_
                    refine g_run rfl rfl hjb ?_
                    first | (refine r_fieldb rfl TF.f36_0 TF.sz3 rfl ?_) | (refine r_fieldcp rfl TF.f36_0 TF.sz3 rfl ?_)
                    refine g_run rfl rfl hjb ?_
                    first | (refine r_load1b 0 rfl rfl rfl TF.agg3 rfl ?_) | (refine r_load1 rfl TF.agg3 rfl ?_) | (refine r_load1b 1 rfl rfl rfl TF.agg3 rfl ?_)
                    refine g_run rfl rfl hjb ?_
                    refine r_cmp rfl rfl rfl rfl ?_
                    refine r_pickT rfl hjb rfl rfl ?_
                    refine awl_nil ?_
                    refine x_then ?_
                    refine awp_cond rfl (fun hc8 => ?_) (fun hc8 => ?_)
                    ·
                      have hk4 : x.kind = 4 := eq_of_beq hc8
                      have hiv := ((hih.trans (if_neg hk2)).trans (if_neg hk3)).trans (if_pos hk4)
                      refine awp_region ?_
                      first | (refine r_fieldb rfl TF.f36_2 TF.sz9 rfl ?_) | (refine r_fieldcp rfl TF.f36_2 TF.sz9 rfl ?_)
                      first | (refine r_load1b 0 rfl rfl rfl TF.agg9 rfl ?_) | (refine r_load1 rfl TF.agg9 rfl ?_) | (refine r_load1b 1 rfl rfl rfl TF.agg9 rfl ?_)
                      first | (refine r_fieldb rfl TF.f54_0 TF.sz9 rfl ?_) | (refine r_fieldcp rfl TF.f54_0 TF.sz9 rfl ?_)
                      first | (refine r_store 0 rfl rfl rfl TF.sz9 rfl rfl rfl ?_) | (refine r_store 1 rfl rfl rfl TF.sz9 rfl rfl rfl ?_)
                      refine awl_nil ?_
                      refine x_then ?_
                      refine awp_region ?_
                      refine r_move rfl rfl ?_
                      refine r_loadAb 0 rfl rfl TF.agg54 TF.sz54 rfl rfl ?_
                      refine r_lit 104 (parts := [(0, .tmp 103)]) rfl TF.sl22 TF.sz54 TF.zraw54 rfl rfl rfl rfl rfl rfl rfl ?_
                      refine r_append 61 rfl (by first | exact .own _ | exact .nil) rfl (by first | exact .sl _ | exact .own _ _ | exact .nil) TF.sl22 TF.sz54 (by decide) TF.by54 TF.zlen54 (by simp [chunks] <;> omega) (by simp [chunks] <;> omega) rfl ?_
                      refine r_assign rfl rfl ?_
                      refine awl_nil ?_
                      refine x_block ?_
                      refine x_then ?_
                      refine awp_region ?_
                      refine r_move rfl rfl ?_
                      refine r_ari _ rfl rfl rfl (wrap_id (by first | omega | (simp; omega))) rfl ?_
                      refine r_assign rfl rfl ?_
                      refine awl_nil ?_
                      refine x_then ?_
                      have hns := nextR_step (c := x) (at_ := (now.findIdx? (fun f => decide (f.name = x.name)))) hy
                      rw [hiv] at hns
                      refine ⟨now.length - (j + 1), ⟨120, [(1, .a (fcsA d)), (6, .a (files now)), (7, .a (.v (.int .i64 ((k : Int))))), (8, .a (.v (.pointer (some ⟨b8, 0, none⟩)))), (9, .a (.v (.int .i64 (optI (now.findIdx? (fun f => decide (f.name = x.name))))))), (10, .own 61 2 ((nextR now x (now.findIdx? (fun f => decide (f.name = x.name))) (j + 1)).map File.cs)), (11, .a (.v (.int .i64 (((j + 1) : Int)))))], [⟨b8, true, .box (FC.cs x)⟩]⟩, ⟨rfl, (Slots.cons rfl (by first | exact .refl _ | exact .nilOwn _ _ | exact .nilSl _ | exact .ownSl _ _ _  | exact SV.le.ownEq (by first | rfl | (rw [hns, Option.toList_some, List.map_append]; rfl) | (rw [hns, Option.toList_none, List.append_nil])) | exact SV.le.of_eq (by first | rfl | (rw [hns, Option.toList_some, List.map_append]; rfl) | (rw [hns, Option.toList_none, List.append_nil]))) (Slots.cons rfl (by first | exact .refl _ | exact .nilOwn _ _ | exact .nilSl _ | exact .ownSl _ _ _  | exact SV.le.ownEq (by first | rfl | (rw [hns, Option.toList_some, List.map_append]; rfl) | (rw [hns, Option.toList_none, List.append_nil])) | exact SV.le.of_eq (by first | rfl | (rw [hns, Option.toList_some, List.map_append]; rfl) | (rw [hns, Option.toList_none, List.append_nil]))) (Slots.cons rfl (by first | exact .refl _ | exact .nilOwn _ _ | exact .nilSl _ | exact .ownSl _ _ _  | exact SV.le.ownEq (by first | rfl | (rw [hns, Option.toList_some, List.map_append]; rfl) | (rw [hns, Option.toList_none, List.append_nil])) | exact SV.le.of_eq (by first | rfl | (rw [hns, Option.toList_some, List.map_append]; rfl) | (rw [hns, Option.toList_none, List.append_nil]))) (Slots.cons rfl (by first | exact .refl _ | exact .nilOwn _ _ | exact .nilSl _ | exact .ownSl _ _ _  | exact SV.le.ownEq (by first | rfl | (rw [hns, Option.toList_some, List.map_append]; rfl) | (rw [hns, Option.toList_none, List.append_nil])) | exact SV.le.of_eq (by first | rfl | (rw [hns, Option.toList_some, List.map_append]; rfl) | (rw [hns, Option.toList_none, List.append_nil]))) (Slots.cons rfl (by first | exact .refl _ | exact .nilOwn _ _ | exact .nilSl _ | exact .ownSl _ _ _  | exact SV.le.ownEq (by first | rfl | (rw [hns, Option.toList_some, List.map_append]; rfl) | (rw [hns, Option.toList_none, List.append_nil])) | exact SV.le.of_eq (by first | rfl | (rw [hns, Option.toList_some, List.map_append]; rfl) | (rw [hns, Option.toList_none, List.append_nil]))) (Slots.cons rfl (by first | exact .refl _ | exact .nilOwn _ _ | exact .nilSl _ | exact .ownSl _ _ _  | exact SV.le.ownEq (by first | rfl | (rw [hns, Option.toList_some, List.map_append]; rfl) | (rw [hns, Option.toList_none, List.append_nil])) | exact SV.le.of_eq (by first | rfl | (rw [hns, Option.toList_some, List.map_append]; rfl) | (rw [hns, Option.toList_none, List.append_nil]))) (Slots.cons rfl (by first | exact .refl _ | exact .nilOwn _ _ | exact .nilSl _ | exact .ownSl _ _ _  | exact SV.le.ownEq (by first | rfl | (rw [hns, Option.toList_some, List.map_append]; rfl) | (rw [hns, Option.toList_none, List.append_nil])) | exact SV.le.of_eq (by first | rfl | (rw [hns, Option.toList_some, List.map_append]; rfl) | (rw [hns, Option.toList_none, List.append_nil]))) Slots.nil))))))), (by first | exact List.Sublist.refl _ | exact .cons_cons _ (.cons _ (.refl _)) | exact List.nil_sublist _ | exact .cons _ (.refl _) | exact .cons _ (.cons _ (.refl _)) | exact .cons _ (.cons _ (.cons _ (.refl _))) | exact .cons _ (.cons _ (.cons _ (.cons _ (.refl _)))) | exact .cons_cons _ (List.nil_sublist _))⟩, (by omega), ⟨j + 1, rfl, rfl, (by omega)⟩⟩
                    ·
                      have hk4 : ¬ x.kind = 4 := by simpa using hc8
                      have hiv := ((hih.trans (if_neg hk2)).trans (if_neg hk3)).trans (if_neg hk4)
                      refine awp_skip ?_
                      refine x_then ?_
                      refine awp_region ?_
                      refine r_move rfl rfl ?_
                      refine r_loadAb 0 rfl rfl TF.agg54 TF.sz54 rfl rfl ?_
                      refine r_lit 104 (parts := [(0, .tmp 103)]) rfl TF.sl22 TF.sz54 TF.zraw54 rfl rfl rfl rfl rfl rfl rfl ?_
                      refine r_append 61 rfl (by first | exact .own _ | exact .nil) rfl (by first | exact .sl _ | exact .own _ _ | exact .nil) TF.sl22 TF.sz54 (by decide) TF.by54 TF.zlen54 (by simp [chunks] <;> omega) (by simp [chunks] <;> omega) rfl ?_
                      refine r_assign rfl rfl ?_
                      refine awl_nil ?_
                      refine x_block ?_
                      refine x_then ?_
                      refine awp_region ?_
                      refine r_move rfl rfl ?_
                      refine r_ari _ rfl rfl rfl (wrap_id (by first | omega | (simp; omega))) rfl ?_
                      refine r_assign rfl rfl ?_
                      refine awl_nil ?_
                      refine x_then ?_
                      have hns := nextR_step (c := x) (at_ := (now.findIdx? (fun f => decide (f.name = x.name)))) hy
                      rw [hiv] at hns
                      refine ⟨now.length - (j + 1), ⟨120, [(1, .a (fcsA d)), (6, .a (files now)), (7, .a (.v (.int .i64 ((k : Int))))), (8, .a (.v (.pointer (some ⟨b8, 0, none⟩)))), (9, .a (.v (.int .i64 (optI (now.findIdx? (fun f => decide (f.name = x.name))))))), (10, .own 61 2 ((nextR now x (now.findIdx? (fun f => decide (f.name = x.name))) (j + 1)).map File.cs)), (11, .a (.v (.int .i64 (((j + 1) : Int)))))], [⟨b8, true, .box (FC.cs x)⟩]⟩, ⟨rfl, (Slots.cons rfl (by first | exact .refl _ | exact .nilOwn _ _ | exact .nilSl _ | exact .ownSl _ _ _  | exact SV.le.ownEq (by first | rfl | (rw [hns, Option.toList_some, List.map_append]; rfl) | (rw [hns, Option.toList_none, List.append_nil])) | exact SV.le.of_eq (by first | rfl | (rw [hns, Option.toList_some, List.map_append]; rfl) | (rw [hns, Option.toList_none, List.append_nil]))) (Slots.cons rfl (by first | exact .refl _ | exact .nilOwn _ _ | exact .nilSl _ | exact .ownSl _ _ _  | exact SV.le.ownEq (by first | rfl | (rw [hns, Option.toList_some, List.map_append]; rfl) | (rw [hns, Option.toList_none, List.append_nil])) | exact SV.le.of_eq (by first | rfl | (rw [hns, Option.toList_some, List.map_append]; rfl) | (rw [hns, Option.toList_none, List.append_nil]))) (Slots.cons rfl (by first | exact .refl _ | exact .nilOwn _ _ | exact .nilSl _ | exact .ownSl _ _ _  | exact SV.le.ownEq (by first | rfl | (rw [hns, Option.toList_some, List.map_append]; rfl) | (rw [hns, Option.toList_none, List.append_nil])) | exact SV.le.of_eq (by first | rfl | (rw [hns, Option.toList_some, List.map_append]; rfl) | (rw [hns, Option.toList_none, List.append_nil]))) (Slots.cons rfl (by first | exact .refl _ | exact .nilOwn _ _ | exact .nilSl _ | exact .ownSl _ _ _  | exact SV.le.ownEq (by first | rfl | (rw [hns, Option.toList_some, List.map_append]; rfl) | (rw [hns, Option.toList_none, List.append_nil])) | exact SV.le.of_eq (by first | rfl | (rw [hns, Option.toList_some, List.map_append]; rfl) | (rw [hns, Option.toList_none, List.append_nil]))) (Slots.cons rfl (by first | exact .refl _ | exact .nilOwn _ _ | exact .nilSl _ | exact .ownSl _ _ _  | exact SV.le.ownEq (by first | rfl | (rw [hns, Option.toList_some, List.map_append]; rfl) | (rw [hns, Option.toList_none, List.append_nil])) | exact SV.le.of_eq (by first | rfl | (rw [hns, Option.toList_some, List.map_append]; rfl) | (rw [hns, Option.toList_none, List.append_nil]))) (Slots.cons rfl (by first | exact .refl _ | exact .nilOwn _ _ | exact .nilSl _ | exact .ownSl _ _ _  | exact SV.le.ownEq (by first | rfl | (rw [hns, Option.toList_some, List.map_append]; rfl) | (rw [hns, Option.toList_none, List.append_nil])) | exact SV.le.of_eq (by first | rfl | (rw [hns, Option.toList_some, List.map_append]; rfl) | (rw [hns, Option.toList_none, List.append_nil]))) (Slots.cons rfl (by first | exact .refl _ | exact .nilOwn _ _ | exact .nilSl _ | exact .ownSl _ _ _  | exact SV.le.ownEq (by first | rfl | (rw [hns, Option.toList_some, List.map_append]; rfl) | (rw [hns, Option.toList_none, List.append_nil])) | exact SV.le.of_eq (by first | rfl | (rw [hns, Option.toList_some, List.map_append]; rfl) | (rw [hns, Option.toList_none, List.append_nil]))) Slots.nil))))))), (by first | exact List.Sublist.refl _ | exact .cons_cons _ (.cons _ (.refl _)) | exact List.nil_sublist _ | exact .cons _ (.refl _) | exact .cons _ (.cons _ (.refl _)) | exact .cons _ (.cons _ (.cons _ (.refl _))) | exact .cons _ (.cons _ (.cons _ (.cons _ (.refl _)))) | exact .cons_cons _ (List.nil_sublist _))⟩, (by omega), ⟨j + 1, rfl, rfl, (by omega)⟩⟩
              ·
                have hjb := at_miss hj
                have hiv := item_miss (c := x) (y := y) hj
                refine awp_region ?_
                refine r_move rfl rfl ?_
                refine r_move rfl rfl ?_
                refine r_cmp rfl rfl rfl rfl ?_
                refine r_move rfl rfl ?_
                refine g_skip rfl rfl hjb rfl ?_
                refine g_skip rfl rfl hjb rfl ?_
                refine g_skip rfl rfl hjb rfl ?_
                refine r_pickF rfl hjb rfl rfl ?_
                refine awl_nil ?_
                refine x_then ?_
                refine awp_condF rfl ?_
                refine awp_skip ?_
                refine x_then ?_
                refine awp_seq ?_
                refine awp_seq ?_
                refine awp_region ?_
                refine r_move rfl rfl ?_
                refine r_move rfl rfl ?_
                refine r_cmp rfl rfl rfl rfl ?_
                refine r_move rfl rfl ?_
                refine g_skip rfl rfl hjb rfl ?_
                refine g_skip rfl rfl hjb rfl ?_
                refine g_skip rfl rfl hjb rfl ?_
                refine r_pickF rfl hjb rfl rfl ?_
                refine awl_nil ?_
                refine x_then ?_
                refine awp_condF rfl ?_
                refine awp_skip ?_
                refine x_then ?_
                refine awp_seq ?_
                refine awp_seq ?_
                refine awp_region ?_
                refine r_move rfl rfl ?_
                refine r_move rfl rfl ?_
                refine r_cmp rfl rfl rfl rfl ?_
                refine r_move rfl rfl ?_
                refine g_skip rfl rfl hjb rfl ?_
                refine g_skip rfl rfl hjb rfl ?_
                refine g_skip rfl rfl hjb rfl ?_
                refine r_pickF rfl hjb rfl rfl ?_
                refine awl_nil ?_
                refine x_then ?_
                refine awp_condF rfl ?_
                refine awp_skip ?_
                refine x_then ?_
                refine awp_region ?_
                refine r_move rfl rfl ?_
                refine r_loadAb 0 rfl rfl TF.agg54 TF.sz54 rfl rfl ?_
                refine r_lit 104 (parts := [(0, .tmp 103)]) rfl TF.sl22 TF.sz54 TF.zraw54 rfl rfl rfl rfl rfl rfl rfl ?_
                refine r_append 61 rfl (by first | exact .own _ | exact .nil) rfl (by first | exact .sl _ | exact .own _ _ | exact .nil) TF.sl22 TF.sz54 (by decide) TF.by54 TF.zlen54 (by simp [chunks] <;> omega) (by simp [chunks] <;> omega) rfl ?_
                refine r_assign rfl rfl ?_
                refine awl_nil ?_
                refine x_block ?_
                refine x_then ?_
                refine awp_region ?_
                refine r_move rfl rfl ?_
                refine r_ari _ rfl rfl rfl (wrap_id (by first | omega | (simp; omega))) rfl ?_
                refine r_assign rfl rfl ?_
                refine awl_nil ?_
                refine x_then ?_
                have hns := nextR_step (c := x) (at_ := (now.findIdx? (fun f => decide (f.name = x.name)))) hy
                rw [hiv] at hns
                refine ⟨now.length - (j + 1), ⟨120, [(1, .a (fcsA d)), (6, .a (files now)), (7, .a (.v (.int .i64 ((k : Int))))), (8, .a (.v (.pointer (some ⟨b8, 0, none⟩)))), (9, .a (.v (.int .i64 (optI (now.findIdx? (fun f => decide (f.name = x.name))))))), (10, .own 61 2 ((nextR now x (now.findIdx? (fun f => decide (f.name = x.name))) (j + 1)).map File.cs)), (11, .a (.v (.int .i64 (((j + 1) : Int)))))], [⟨b8, true, .box (FC.cs x)⟩]⟩, ⟨rfl, (Slots.cons rfl (by first | exact .refl _ | exact .nilOwn _ _ | exact .nilSl _ | exact .ownSl _ _ _  | exact SV.le.ownEq (by first | rfl | (rw [hns, Option.toList_some, List.map_append]; rfl) | (rw [hns, Option.toList_none, List.append_nil])) | exact SV.le.of_eq (by first | rfl | (rw [hns, Option.toList_some, List.map_append]; rfl) | (rw [hns, Option.toList_none, List.append_nil]))) (Slots.cons rfl (by first | exact .refl _ | exact .nilOwn _ _ | exact .nilSl _ | exact .ownSl _ _ _  | exact SV.le.ownEq (by first | rfl | (rw [hns, Option.toList_some, List.map_append]; rfl) | (rw [hns, Option.toList_none, List.append_nil])) | exact SV.le.of_eq (by first | rfl | (rw [hns, Option.toList_some, List.map_append]; rfl) | (rw [hns, Option.toList_none, List.append_nil]))) (Slots.cons rfl (by first | exact .refl _ | exact .nilOwn _ _ | exact .nilSl _ | exact .ownSl _ _ _  | exact SV.le.ownEq (by first | rfl | (rw [hns, Option.toList_some, List.map_append]; rfl) | (rw [hns, Option.toList_none, List.append_nil])) | exact SV.le.of_eq (by first | rfl | (rw [hns, Option.toList_some, List.map_append]; rfl) | (rw [hns, Option.toList_none, List.append_nil]))) (Slots.cons rfl (by first | exact .refl _ | exact .nilOwn _ _ | exact .nilSl _ | exact .ownSl _ _ _  | exact SV.le.ownEq (by first | rfl | (rw [hns, Option.toList_some, List.map_append]; rfl) | (rw [hns, Option.toList_none, List.append_nil])) | exact SV.le.of_eq (by first | rfl | (rw [hns, Option.toList_some, List.map_append]; rfl) | (rw [hns, Option.toList_none, List.append_nil]))) (Slots.cons rfl (by first | exact .refl _ | exact .nilOwn _ _ | exact .nilSl _ | exact .ownSl _ _ _  | exact SV.le.ownEq (by first | rfl | (rw [hns, Option.toList_some, List.map_append]; rfl) | (rw [hns, Option.toList_none, List.append_nil])) | exact SV.le.of_eq (by first | rfl | (rw [hns, Option.toList_some, List.map_append]; rfl) | (rw [hns, Option.toList_none, List.append_nil]))) (Slots.cons rfl (by first | exact .refl _ | exact .nilOwn _ _ | exact .nilSl _ | exact .ownSl _ _ _  | exact SV.le.ownEq (by first | rfl | (rw [hns, Option.toList_some, List.map_append]; rfl) | (rw [hns, Option.toList_none, List.append_nil])) | exact SV.le.of_eq (by first | rfl | (rw [hns, Option.toList_some, List.map_append]; rfl) | (rw [hns, Option.toList_none, List.append_nil]))) (Slots.cons rfl (by first | exact .refl _ | exact .nilOwn _ _ | exact .nilSl _ | exact .ownSl _ _ _  | exact SV.le.ownEq (by first | rfl | (rw [hns, Option.toList_some, List.map_append]; rfl) | (rw [hns, Option.toList_none, List.append_nil])) | exact SV.le.of_eq (by first | rfl | (rw [hns, Option.toList_some, List.map_append]; rfl) | (rw [hns, Option.toList_none, List.append_nil]))) Slots.nil))))))), (by first | exact List.Sublist.refl _ | exact .cons_cons _ (.cons _ (.refl _)) | exact List.nil_sublist _ | exact .cons _ (.refl _) | exact .cons _ (.cons _ (.refl _)) | exact .cons _ (.cons _ (.cons _ (.refl _))) | exact .cons _ (.cons _ (.cons _ (.cons _ (.refl _)))) | exact .cons_cons _ (List.nil_sublist _))⟩, (by omega), ⟨j + 1, rfl, rfl, (by omega)⟩⟩
            ·
              have hge : now.length ≤ j := by have := of_decide_eq_false hc5; simp at this; omega
              obtain rfl : j = now.length := by omega
              have hnxl := nextR_len (now := now) (c := x) (at_ := (now.findIdx? (fun f => decide (f.name = x.name)))) (k := now.length)
              refine awp_exit ?_
              refine x_thenE ?_
              refine x_thenE ?_
              refine x_blockE ?_
              refine x_then ?_
              refine awp_seq ?_
              refine awp_seq ?_
              refine awp_region ?_
              first | (refine r_fieldb rfl TF.f36_0 TF.sz3 rfl ?_) | (refine r_fieldcp rfl TF.f36_0 TF.sz3 rfl ?_)
              first | (refine r_load1b 0 rfl rfl rfl TF.agg3 rfl ?_) | (refine r_load1 rfl TF.agg3 rfl ?_)
              refine r_cmp rfl rfl rfl rfl ?_
              refine awl_nil ?_
              refine x_then ?_
              refine awp_cond rfl (fun hc9 => ?_) (fun hc9 => ?_)
              ·
                have hk1 : x.kind = 1 := eq_of_beq hc9
                rw [if_pos hk1] at htl
                refine awp_region ?_
                refine r_move rfl rfl ?_
                first | (refine r_fieldb rfl TF.f36_1 TF.sz9 rfl ?_) | (refine r_fieldcp rfl TF.f36_1 TF.sz9 rfl ?_)
                first | (refine r_load1b 0 rfl rfl rfl TF.agg9 rfl ?_) | (refine r_load1 rfl TF.agg9 rfl ?_)
                first | (refine r_fieldb rfl TF.f36_3 TF.sz34 rfl ?_) | (refine r_fieldcp rfl TF.f36_3 TF.sz34 rfl ?_)
                first | (refine r_load1b 0 rfl rfl rfl TF.agg34 rfl ?_) | (refine r_load1 rfl TF.agg34 rfl ?_)
                refine r_build (parts := [(0, .tmp 111), (1, .tmp 113)]) rfl TF.pl54 TF.zero54 rfl rfl rfl ?_
                refine r_lit 115 (parts := [(0, .tmp 114)]) rfl TF.sl22 TF.sz54 TF.zraw54 rfl rfl rfl rfl rfl rfl rfl ?_
                refine r_append 61 rfl (by first | exact .own _ | exact .nil) rfl (by first | exact .sl _ | exact .own _ _ | exact .nil) TF.sl22 TF.sz54 (by decide) TF.by54 TF.zlen54 (by simp [chunks] <;> omega) (by simp [chunks] <;> omega) rfl ?_
                refine r_assign rfl rfl ?_
                refine awl_nil ?_
                refine x_then ?_
                refine awp_region ?_
                refine r_move rfl rfl ?_
                refine r_assign rfl rfl ?_
                refine awl_nil ?_
                refine x_block ?_
                refine x_then ?_
                refine awp_region ?_
                refine r_move rfl rfl ?_
                refine r_ari _ rfl rfl rfl (wrap_id (by first | omega | (simp; omega))) rfl ?_
                refine r_assign rfl rfl ?_
                refine awl_nil ?_
                refine x_then ?_
                refine ⟨d.length - (k + 1), ⟨120, [(1, .a (fcsA d)), (6, .a (files ((nextR now x (now.findIdx? (fun f => decide (f.name = x.name))) now.length ++ [(⟨x.name, x.data⟩ : File)])))), (7, .a (.v (.int .i64 (((k + 1) : Int)))))], []⟩, ⟨rfl, (Slots.cons rfl (by first | exact .refl _ | exact .nilOwn _ _ | exact .nilSl _ | exact .ownSl _ _ _  | exact SV.le.ownEq (by first | rfl | (rw [List.map_append]; rfl)) | exact SV.le.of_eq (by first | rfl | (rw [List.map_append]; rfl))) (Slots.cons rfl (by first | exact .refl _ | exact .nilOwn _ _ | exact .nilSl _ | exact .ownSl _ _ _  | exact SV.le.ownEq (by first | rfl | (rw [List.map_append]; rfl)) | exact SV.le.of_eq (by first | rfl | (rw [List.map_append]; rfl))) (Slots.cons rfl (by first | exact .refl _ | exact .nilOwn _ _ | exact .nilSl _ | exact .ownSl _ _ _  | exact SV.le.ownEq (by first | rfl | (rw [List.map_append]; rfl)) | exact SV.le.of_eq (by first | rfl | (rw [List.map_append]; rfl))) Slots.nil))), (by first | exact List.Sublist.refl _ | exact .cons_cons _ (.cons _ (.refl _)) | exact List.nil_sublist _ | exact .cons _ (.refl _) | exact .cons _ (.cons _ (.refl _)) | exact .cons _ (.cons _ (.cons _ (.refl _))) | exact .cons _ (.cons _ (.cons _ (.cons _ (.refl _)))) | exact .cons_cons _ (List.nil_sublist _))⟩, (by omega), ⟨k + 1, (stepM m x).2, (nextR now x (now.findIdx? (fun f => decide (f.name = x.name))) now.length ++ [(⟨x.name, x.data⟩ : File)]), rfl, rfl, (by omega), (by rw [applyM_step hx hap, ← h0]), htl, (step_nd hnd), (by simp; omega)⟩⟩
              ·
                have hk1 : ¬ x.kind = 1 := by simpa using hc9
                rw [if_neg hk1, List.append_nil] at htl
                refine awp_skip ?_
                refine x_then ?_
                refine awp_region ?_
                refine r_move rfl rfl ?_
                refine r_assign rfl rfl ?_
                refine awl_nil ?_
                refine x_block ?_
                refine x_then ?_
                refine awp_region ?_
                refine r_move rfl rfl ?_
                refine r_ari _ rfl rfl rfl (wrap_id (by first | omega | (simp; omega))) rfl ?_
                refine r_assign rfl rfl ?_
                refine awl_nil ?_
                refine x_then ?_
                refine ⟨d.length - (k + 1), ⟨120, [(1, .a (fcsA d)), (6, .a (files ((nextR now x (now.findIdx? (fun f => decide (f.name = x.name))) now.length)))), (7, .a (.v (.int .i64 (((k + 1) : Int)))))], []⟩, ⟨rfl, (Slots.cons rfl (by first | exact .refl _ | exact .nilOwn _ _ | exact .nilSl _ | exact .ownSl _ _ _  | exact SV.le.ownEq (by rfl) | exact SV.le.of_eq (by rfl)) (Slots.cons rfl (by first | exact .refl _ | exact .nilOwn _ _ | exact .nilSl _ | exact .ownSl _ _ _  | exact SV.le.ownEq (by rfl) | exact SV.le.of_eq (by rfl)) (Slots.cons rfl (by first | exact .refl _ | exact .nilOwn _ _ | exact .nilSl _ | exact .ownSl _ _ _  | exact SV.le.ownEq (by rfl) | exact SV.le.of_eq (by rfl)) Slots.nil))), (by first | exact List.Sublist.refl _ | exact .cons_cons _ (.cons _ (.refl _)) | exact List.nil_sublist _ | exact .cons _ (.refl _) | exact .cons _ (.cons _ (.refl _)) | exact .cons _ (.cons _ (.cons _ (.refl _))) | exact .cons _ (.cons _ (.cons _ (.cons _ (.refl _)))) | exact .cons_cons _ (List.nil_sublist _))⟩, (by omega), ⟨k + 1, (stepM m x).2, (nextR now x (now.findIdx? (fun f => decide (f.name = x.name))) now.length), rfl, rfl, (by omega), (by rw [applyM_step hx hap, ← h0]), htl, (step_nd hnd), (by omega)⟩⟩
  ·
    have hge : d.length ≤ k := by have := of_decide_eq_false hc0; simp at this; omega
    obtain rfl : k = d.length := by omega
    have hap2 := applyM_end hge hap
    have hfc : filesM m = cleanS now := files_clean hnd htn.2
    refine awp_exit ?_
    refine x_thenE ?_
    refine x_thenE ?_
    refine x_blockE ?_
    refine x_then ?_
    refine awp_seq ?_
    refine awp_region ?_
    refine r_move rfl rfl ?_
    refine r_call0 hq rfl rfl (.cons (.ev rfl rfl) .nil) (rclean_ok now (by omega)) rfl TF.en21 rfl (fun r hr => ?_)
    obtain rfl := hr
    refine r_assign rfl rfl ?_
    refine r_assign rfl rfl ?_
    refine awl_nil ?_
    refine x_then ?_
    refine awp_ret ?_
    exact ⟨(.inl rfl), _, [], (.two (by first | exact .mk rfl rfl | exact .nil rfl) (by first | exact .mk rfl rfl | exact .nil rfl)), ⟨rfl, by first | exact .inl ⟨m, hap2, by rw [hfc]; rfl⟩ | exact .inr ⟨_, _, (applyM_fail hx hap (by rw [hst]; simp)).trans hst, by decide, rfl⟩⟩, (List.nil_sublist _), (by simp)⟩

end Go.Proofs.Ytnbnegkdbjdekaa.A

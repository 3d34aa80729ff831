/- Layer 66: past.Last and SalvagePast, walked. -/
import Derived.Test.YtpoacfbobalpkaaProg
import Derived.KernelRfl
import Derived.Test.YtpoacfbobalpkaaX66W
namespace Go.Proofs.Ytpoacfbobalpkaa.A
open Go Go.RowKit
set_option linter.unusedVariables false
set_option linter.unusedSimpArgs false
set_option maxRecDepth 100000

theorem T.un67 : Try.prog.underlying 67 = some (.func #[31] #[4] false) := by kernel_rfl
theorem T.en27 : entersT Try.prog 27 := enters_of Try.func27 (by kernel_rfl) (by kernel_rfl)
theorem T.f69_0 : fieldT Try.prog 69 0 = some (0, 30) := by kernel_rfl
theorem T.en25 : entersT Try.prog 25 := enters_of Try.func25 (by kernel_rfl) (by kernel_rfl)
theorem T.en26 : entersT Try.prog 26 := enters_of Try.func26 (by kernel_rfl) (by kernel_rfl)

def lastR (o : Option Ver) : AV := match o with | some v => .tup [.v (.int .u64 v.frm), boolA true] | none => .tup [.v (.int .u64 0), boolA false]
theorem last_none {not : Int} {l : List Ver} {q : Nat} (h0 : q = 0) (h : ∀ v ∈ l.drop q, goodV not v = false) : lastG not l = none := by
  subst h0
  unfold lastG; rw [List.find?_eq_none]; intro v hv; simp at hv; simp [h v (by simpa using hv)]
theorem last_some {not : Int} {l : List Ver} {q : Nat} {v : Ver} (hv : l[q]? = some v) (hg : goodV not v = true) (h : ∀ w ∈ l.drop (q + 1), goodV not w = false) : lastG not l = some v := by
  unfold lastG
  have e : l = l.take q ++ v :: l.drop (q + 1) := by
    have h2 := (List.getElem?_eq_some_iff.1 hv).2
    rw [← h2, List.getElem_cons_drop, List.take_append_drop]
  rw [e, List.reverse_append, List.reverse_cons, List.append_assoc, List.find?_append]
  have hn : (l.drop (q + 1)).reverse.find? (goodV not) = none := by rw [List.find?_eq_none]; intro w hw; simp [h w (by simpa using hw)]
  rw [hn]; simp [hg]
theorem drop_all {not : Int} {l : List Ver} {q : Nat} {v : Ver} (hv : l[q]? = some v) (hg : goodV not v = false) (h : ∀ w ∈ l.drop (q + 1), goodV not w = false) : ∀ w ∈ l.drop q, goodV not w = false := by
  intro w hw
  have h2 := List.getElem?_eq_some_iff.1 hv
  rw [← List.getElem_cons_drop h2.1] at hw
  rcases List.mem_cons.1 hw with rfl | hw
  · rw [h2.2]; exact hg
  · exact h w hw

theorem past1_ok (d : List UInt8) (not : Int) (hd : d.length ≤ 1000000) : AC Try.prog 27 [bts d, .cp [u8A not]] [] (fun r n => n = [] ∧ r = boolA (wholeB not d)) := by
  refine ac_of_awp (rs := [3]) (nt := 7) Try.func27 rfl rfl rfl rfl (fun w0 C0 => ?_)
  refine awp_seq ?_
  refine awp_region ?_
  refine r_assign rfl rfl ?_
  refine awl_nil ?_
  refine x_then ?_
  refine awp_seq ?_
  refine awp_region ?_
  refine r_move rfl rfl ?_
  refine r_load1 rfl T.agg5 rfl ?_
  refine r_call0 rfl rfl (.cons (.ev rfl rfl) (.cons (.ev rfl rfl) .nil)) (whole_ok d not hd) rfl T.en21 rfl (fun r hr => ?_)
  obtain rfl := hr
  refine r_assign rfl rfl ?_
  refine awl_nil ?_
  refine x_then ?_
  refine awp_ret ?_
  exact ⟨(.inl rfl), _, [], (.one (by first | exact .mk rfl rfl | exact .nil rfl)), ⟨rfl, rfl⟩, (List.nil_sublist _), (by simp)⟩

theorem last_ok (l : List Ver) (not : Int) (hl : l.length ≤ 1000000) (hd : ∀ v ∈ l, v.data.length ≤ 1000000) : AC Try.prog 26 [versA l, .fn 27 [.cp [u8A not]]] [] (fun r n => n = [] ∧ r = lastR (lastG not l)) := by
  refine ac_of_awp (rs := [4, 5]) (nt := 36) Try.func26 rfl rfl rfl rfl (fun w0 C0 => ?_)
  refine awp_seq ?_
  refine awp_region ?_
  refine r_assign rfl rfl ?_
  refine r_assign rfl rfl ?_
  refine awl_nil ?_
  refine x_then ?_
  refine awp_seq ?_
  refine awp_seq ?_
  refine awp_region ?_
  refine r_move rfl rfl ?_
  first | (refine r_fn_eq rfl T.un67 rfl ?_) | (refine r_nofn_eq rfl T.un67 rfl ?_)
  refine awl_nil ?_
  refine x_then ?_
  refine awp_cond rfl (fun hc0 => ?_) (fun hc0 => ?_)
  ·
    exfalso; cases hc0
  ·
    refine awp_skip ?_
    refine x_then ?_
    refine awp_seq ?_
    refine awp_seq ?_
    refine awp_region ?_
    refine r_move rfl rfl ?_
    first | (refine r_lenS rfl rfl T.sl63 rfl ?_) | (refine r_lenNil rfl T.sl63 rfl ?_)
    refine r_ari _ rfl rfl rfl (wrap_id (by rw [List.length_map]; omega)) rfl ?_
    refine r_assign rfl rfl ?_
    refine awl_nil ?_
    refine x_then ?_
    refine awp_block ?_
    refine awp_loop (fun nn0 S => ∃ q : Nat, S = ⟨36, [(0, .a (versA l)), (1, .a (.fn 27 [.cp [u8A not]])), (6, .a (.v (.int .i64 (((q : Nat) : Int) - 1))))], []⟩ ∧ nn0 = 0 + q ∧ (q ≤ l.length) ∧ (∀ v ∈ l.drop q, goodV not v = false)) (0 + (l.length)) ⟨36, [(0, .a (versA l)), (1, .a (.fn 27 [.cp [u8A not]])), (6, .a (.v (.int .i64 ((((l.length) : Nat) : Int) - 1))))], []⟩ ⟨rfl, (Slots.cons rfl (by first | exact .refl _ | exact .nilOwn _ _ | exact .nilSl _ | exact .ownSl _ _ _ | exact SV.le.of_eq (by rw [List.length_map])) (Slots.cons rfl (by first | exact .refl _ | exact .nilOwn _ _ | exact .nilSl _ | exact .ownSl _ _ _ | exact SV.le.of_eq (by rw [List.length_map])) (Slots.cons rfl (by first | exact .refl _ | exact .nilOwn _ _ | exact .nilSl _ | exact .ownSl _ _ _ | exact SV.le.of_eq (by rw [List.length_map])) Slots.nil))), (by first | exact List.Sublist.refl _ | exact List.nil_sublist _ | exact .cons _ (.refl _) | exact .cons _ (.cons _ (.refl _)) | exact .cons _ (.cons _ (.cons _ (.refl _))) | exact .cons _ (.cons _ (.cons _ (.cons _ (.refl _)))) | exact .cons_cons _ (List.nil_sublist _))⟩ ⟨l.length, rfl, rfl, Nat.le_refl _, (by simp)⟩ ?_
    rintro nn0 _ ⟨q, rfl, rfl, hq, hno⟩
    refine awp_seq ?_
    refine awp_seq ?_
    refine awp_region ?_
    refine r_move rfl rfl ?_
    refine r_cmp rfl rfl rfl rfl ?_
    refine awl_nil ?_
    refine x_then ?_
    refine awp_cond rfl (fun hc1 => ?_) (fun hc1 => ?_)
    ·
      have hq0 : 0 < q := by have := of_decide_eq_true hc1; omega
      obtain ⟨p, rfl⟩ : ∃ p, q = p + 1 := ⟨q - 1, by omega⟩
      obtain ⟨x, hx⟩ : ∃ x, l[p]? = some x := get_lt (by omega)
      have hxd := hd x (List.mem_of_getElem? hx)
      refine awp_skip ?_
      refine x_then ?_
      refine awp_seq ?_
      refine awp_block ?_
      refine awp_seq ?_
      refine awp_region ?_
      refine r_move rfl rfl ?_
      refine r_move rfl rfl ?_
      refine r_index rfl rfl rfl T.sl63 T.sz69 (by omega) (by rw [show (((p + 1 : Nat) : Int) - 1).toNat = p by omega]; exact get_map hx) rfl ?_
      first | (refine r_fieldcp rfl T.f69_1 T.sz4 rfl ?_) | (refine r_fieldb rfl T.f69_1 T.sz4 rfl ?_)
      refine r_load1 rfl T.agg4 rfl ?_
      refine r_move rfl rfl ?_
      refine g_cases (t' := 21) rfl (fun hg21 => ?_) (fun hg21 => ?_)
      ·
        refine g_run rfl rfl hg21 ?_
        refine r_move rfl rfl ?_
        refine g_run rfl rfl hg21 ?_
        refine r_move rfl rfl ?_
        refine g_run rfl rfl hg21 ?_
        refine r_move rfl rfl ?_
        refine g_run rfl rfl hg21 ?_
        refine r_index rfl rfl rfl T.sl63 T.sz69 (by omega) (by rw [show (((p + 1 : Nat) : Int) - 1).toNat = p by omega]; exact get_map hx) rfl ?_
        refine g_run rfl rfl hg21 ?_
        first | (refine r_fieldcp rfl T.f69_2 T.sz31 rfl ?_) | (refine r_fieldb rfl T.f69_2 T.sz31 rfl ?_)
        refine g_run rfl rfl hg21 ?_
        refine r_load1 rfl T.agg31 rfl ?_
        refine g_run rfl rfl hg21 ?_
        refine r_call0 rfl rfl (.cons (.ev rfl rfl) .nil) (clone_ok x.data hxd) rfl T.en30 rfl (fun r hr => ?_)
        obtain rfl := hr
        refine g_run rfl rfl hg21 ?_
        refine r_call0 rfl rfl (.cons (.ev rfl rfl) .nil) (past1_ok x.data not hxd) rfl T.en27 rfl (fun r hr => ?_)
        obtain rfl := hr
        refine r_pickT rfl hg21 rfl rfl ?_
        refine awl_nil ?_
        refine x_then ?_
        refine awp_cond rfl (fun hc2 => ?_) (fun hc2 => ?_)
        ·
          have hg : goodV not x = true := by rw [goodV, hg21, hc2]; rfl
          refine awp_seq ?_
          refine awp_region ?_
          refine r_move rfl rfl ?_
          refine r_move rfl rfl ?_
          refine r_index rfl rfl rfl T.sl63 T.sz69 (by omega) (by rw [show (((p + 1 : Nat) : Int) - 1).toNat = p by omega]; exact get_map hx) rfl ?_
          first | (refine r_fieldcp rfl T.f69_0 T.sz30 rfl ?_) | (refine r_fieldb rfl T.f69_0 T.sz30 rfl ?_)
          refine r_load1 rfl T.agg30 rfl ?_
          refine r_assign rfl rfl ?_
          refine r_assign rfl rfl ?_
          refine awl_nil ?_
          refine x_then ?_
          refine awp_ret ?_
          refine x_blockR ?_
          refine x_thenR ?_
          refine x_thenR ?_
          refine x_blockR ?_
          refine x_thenR ?_
          exact ⟨(.inl rfl), _, [], (.two (by first | exact .mk rfl rfl | exact .nil rfl) (by first | exact .mk rfl rfl | exact .nil rfl)), ⟨rfl, by rw [last_some hx hg hno]; rfl⟩, (List.nil_sublist _), (by simp)⟩
        ·
          have hg : goodV not x = false := by rw [goodV, hg21, hc2]; rfl
          refine awp_skip ?_
          refine x_block ?_
          refine x_then ?_
          refine awp_region ?_
          refine r_move rfl rfl ?_
          refine r_ari _ rfl rfl rfl (wrap_id (by omega)) rfl ?_
          refine r_assign rfl rfl ?_
          refine awl_nil ?_
          refine x_then ?_
          refine ⟨0 + (p), ⟨36, [(0, .a (versA l)), (1, .a (.fn 27 [.cp [u8A not]])), (6, .a (.v (.int .i64 ((((p) : Nat) : Int) - 1))))], []⟩, ⟨rfl, (Slots.cons rfl (by first | exact .refl _ | exact .nilOwn _ _ | exact .nilSl _ | exact .ownSl _ _ _ | exact SV.le.of_eq (by congr 4; omega)) (Slots.cons rfl (by first | exact .refl _ | exact .nilOwn _ _ | exact .nilSl _ | exact .ownSl _ _ _ | exact SV.le.of_eq (by congr 4; omega)) (Slots.cons rfl (by first | exact .refl _ | exact .nilOwn _ _ | exact .nilSl _ | exact .ownSl _ _ _ | exact SV.le.of_eq (by congr 4; omega)) Slots.nil))), (by first | exact List.Sublist.refl _ | exact List.nil_sublist _ | exact .cons _ (.refl _) | exact .cons _ (.cons _ (.refl _)) | exact .cons _ (.cons _ (.cons _ (.refl _))) | exact .cons _ (.cons _ (.cons _ (.cons _ (.refl _)))) | exact .cons_cons _ (List.nil_sublist _))⟩, (by omega), ⟨p, rfl, rfl, (by omega), (drop_all hx hg hno)⟩⟩
      ·
        have hg : goodV not x = false := by rw [goodV, hg21]; rfl
        refine g_skip rfl rfl hg21 rfl ?_
        refine g_skip rfl rfl hg21 rfl ?_
        refine g_skip rfl rfl hg21 rfl ?_
        refine g_skip rfl rfl hg21 rfl ?_
        refine g_skip rfl rfl hg21 rfl ?_
        refine g_skip rfl rfl hg21 rfl ?_
        refine g_skip rfl rfl hg21 rfl ?_
        refine g_skip rfl rfl hg21 rfl ?_
        refine r_pickF rfl hg21 rfl rfl ?_
        refine awl_nil ?_
        refine x_then ?_
        refine awp_condF rfl ?_
        refine awp_skip ?_
        refine x_block ?_
        refine x_then ?_
        refine awp_region ?_
        refine r_move rfl rfl ?_
        refine r_ari _ rfl rfl rfl (wrap_id (by omega)) rfl ?_
        refine r_assign rfl rfl ?_
        refine awl_nil ?_
        refine x_then ?_
        refine ⟨0 + (p), ⟨36, [(0, .a (versA l)), (1, .a (.fn 27 [.cp [u8A not]])), (6, .a (.v (.int .i64 ((((p) : Nat) : Int) - 1))))], []⟩, ⟨rfl, (Slots.cons rfl (by first | exact .refl _ | exact .nilOwn _ _ | exact .nilSl _ | exact .ownSl _ _ _ | exact SV.le.of_eq (by congr 4; omega)) (Slots.cons rfl (by first | exact .refl _ | exact .nilOwn _ _ | exact .nilSl _ | exact .ownSl _ _ _ | exact SV.le.of_eq (by congr 4; omega)) (Slots.cons rfl (by first | exact .refl _ | exact .nilOwn _ _ | exact .nilSl _ | exact .ownSl _ _ _ | exact SV.le.of_eq (by congr 4; omega)) Slots.nil))), (by first | exact List.Sublist.refl _ | exact List.nil_sublist _ | exact .cons _ (.refl _) | exact .cons _ (.cons _ (.refl _)) | exact .cons _ (.cons _ (.cons _ (.refl _))) | exact .cons _ (.cons _ (.cons _ (.cons _ (.refl _)))) | exact .cons_cons _ (List.nil_sublist _))⟩, (by omega), ⟨p, rfl, rfl, (by omega), (drop_all hx hg hno)⟩⟩
    ·
      have hq0 : q = 0 := by have := of_decide_eq_false hc1; omega
      refine awp_exit ?_
      refine x_thenE ?_
      refine x_thenE ?_
      refine x_blockE ?_
      refine x_then ?_
      refine awp_seq ?_
      refine awp_region ?_
      refine r_assign rfl rfl ?_
      refine r_assign rfl rfl ?_
      refine awl_nil ?_
      refine x_then ?_
      refine awp_ret ?_
      exact ⟨(.inl rfl), _, [], (.two (by first | exact .mk rfl rfl | exact .nil rfl) (by first | exact .mk rfl rfl | exact .nil rfl)), ⟨rfl, by rw [last_none hq0 hno]; rfl⟩, (List.nil_sublist _), (by simp)⟩

theorem vers_data {look : Int → Option (List File)} (h : LookOk look) (n : ByteArray) : ∀ (ms : List Int) (out : List Ver), (∀ v ∈ out, v.data.length ≤ 1000000) → ∀ v ∈ ms.foldl (stepV look n) out, v.data.length ≤ 1000000
  | [], out, h0 => h0
  | m :: r, out, h0 => by
    rw [List.foldl_cons]
    refine vers_data h n r _ ?_
    unfold stepV
    cases hl : look m with
    | none => exact h0
    | some fs =>
      have hv : (verAt fs n m).data.length ≤ 1000000 := by
        unfold verAt
        cases hf : fs.find? (fun f => decide (f.name = n)) with
        | none => simp
        | some f => have := ((h m fs hl).2 f (List.mem_of_find?_eq_some hf)).2; simp only; omega
      have happ : ∀ v ∈ out ++ [verAt fs n m], v.data.length ≤ 1000000 := by
        intro v hm
        rcases List.mem_append.1 hm with hm | hm
        · exact h0 v hm
        · simp at hm; subst hm; exact hv
      simp only
      cases out.getLast? with
      | none => exact happ
      | some w =>
        simp only
        cases w.alike (verAt fs n m)
        · exact happ
        · exact h0
theorem rise_one {vs : List Ver} (h : vs.Pairwise (fun v w => v.frm < w.frm)) {v w : Ver} (hv : v ∈ vs) (hw : w ∈ vs) (e : v.frm = w.frm) : v = w := by
  obtain ⟨i, hi⟩ := List.getElem?_of_mem hv
  obtain ⟨j, hj⟩ := List.getElem?_of_mem hw
  obtain ⟨hi1, hi2⟩ := List.getElem?_eq_some_iff.1 hi
  obtain ⟨hj1, hj2⟩ := List.getElem?_eq_some_iff.1 hj
  rw [List.pairwise_iff_getElem] at h
  rcases Nat.lt_trichotomy i j with hl | hl | hl
  · have := h i j hi1 hj1 hl; rw [hi2, hj2] at this; omega
  · subst hl; rw [hi] at hj; exact Option.some.inj hj
  · have := h j i hj1 hi1 hl; rw [hi2, hj2] at this; omega
theorem lastG_mem {not : Int} {l : List Ver} {v : Ver} (h : lastG not l = some v) : v ∈ l := by
  unfold lastG at h; have := List.mem_of_find?_eq_some h; simpa using this
theorem lastR_eq (o : Option Ver) : lastR o = .tup [.v (.int .u64 ((o.map (·.frm)).getD 0)), boolA o.isSome] := by cases o <;> rfl

theorem past_law (l : List Moment) (nums : List Int) (not : Int) : AC Try.prog 8 [momentsA l, numsA nums, u8A not] [] (fun r n => n = [] ∧ r = boolA true) := by
  refine ac_of_awp (rs := [6]) (nt := 108) Try.func8 rfl rfl rfl rfl (fun w0 C0 => ?_)
  refine awp_seq ?_
  refine awp_region ?_
  refine r_box rfl rfl rfl (fun b5 => ?_)
  refine r_assign rfl rfl ?_
  refine awl_nil ?_
  refine x_then ?_
  refine awp_seq ?_
  refine awp_seq ?_
  refine awp_region ?_
  refine awl_imp (imp_commit 0 5 rfl rfl rfl rfl) ?_
  refine r_call0 rfl rfl .nil (awake_ok) rfl T.en9 rfl (fun r hr => ?_)
  obtain rfl := hr
  refine r_not rfl rfl ?_
  refine awl_nil ?_
  refine x_then ?_
  refine awp_cond rfl (fun hc0 => ?_) (fun hc0 => ?_)
  ·
    exfalso; exact absurd hc0 (by decide)
  ·
    refine awp_skip ?_
    refine x_then ?_
    refine awp_seq ?_
    refine awp_seq ?_
    refine awp_region ?_
    refine r_move rfl rfl ?_
    refine r_move rfl rfl ?_
    refine r_call0 rfl rfl (.cons (.ev rfl rfl) (.cons (.ev rfl rfl) .nil)) (small_ok l nums) rfl T.en10 rfl (fun r hr => ?_)
    rcases hr with rfl | ⟨rfl, h⟩
    
    ·
      refine r_cmp rfl rfl rfl rfl ?_
      refine awl_nil ?_
      refine x_then ?_
      refine awp_condT rfl ?_
      refine awp_seq ?_
      refine awp_region ?_
      refine r_assign rfl rfl ?_
      refine awl_nil ?_
      refine x_then ?_
      refine awp_ret ?_
      refine x_thenR ?_
      exact ⟨(.inl rfl), _, [], (.one (by first | exact .mk rfl rfl | exact .nil rfl)), ⟨rfl, rfl⟩, (List.nil_sublist _), (by simp)⟩
    ·
      have hn10 := h.nums
      refine r_cmp rfl rfl rfl rfl ?_
      refine awl_nil ?_
      refine x_then ?_
      refine awp_condF rfl ?_
      refine awp_skip ?_
      refine x_then ?_
      refine awp_seq ?_
      refine awp_seq ?_
      refine awp_region ?_
      refine r_move rfl rfl ?_
      first | (refine r_lenS rfl rfl T.sl23 rfl ?_) | (refine r_lenNil rfl T.sl23 rfl ?_)
      refine r_move rfl rfl ?_
      refine awl_nil ?_
      refine x_then ?_
      refine awp_block ?_
      refine awp_loop (fun nn0 S => ∃ k : Nat, S = ⟨108, [(0, .a (momentsA l)), (1, .a (numsA nums)), (5, .a (.cp [u8A not])), (21, .a (numsA nums)), (22, .a (.v (.int .i64 ((nums.map fun x => [AV.v (.int .u64 x)]).length)))), (23, .a (.v (.int .i64 ((k : Int)))))], []⟩ ∧ nn0 = nums.length - k ∧ (k ≤ nums.length) ∧ ((nums.take k).Pairwise (· < ·))) (nums.length - (0)) ⟨108, [(0, .a (momentsA l)), (1, .a (numsA nums)), (5, .a (.cp [u8A not])), (21, .a (numsA nums)), (22, .a (.v (.int .i64 ((nums.map fun x => [AV.v (.int .u64 x)]).length)))), (23, .a (.v (.int .i64 (((0) : Int)))))], []⟩ ⟨rfl, (Slots.cons rfl (by first | exact .refl _ | exact .nilOwn _ _ | exact .nilSl _ | exact .ownSl _ _ _ | exact SV.le.of_eq (by simp)) (Slots.cons rfl (by first | exact .refl _ | exact .nilOwn _ _ | exact .nilSl _ | exact .ownSl _ _ _ | exact SV.le.of_eq (by simp)) (Slots.cons rfl (by first | exact .refl _ | exact .nilOwn _ _ | exact .nilSl _ | exact .ownSl _ _ _ | exact SV.le.of_eq (by simp)) (Slots.cons rfl (by first | exact .refl _ | exact .nilOwn _ _ | exact .nilSl _ | exact .ownSl _ _ _ | exact SV.le.of_eq (by simp)) (Slots.cons rfl (by first | exact .refl _ | exact .nilOwn _ _ | exact .nilSl _ | exact .ownSl _ _ _ | exact SV.le.of_eq (by simp)) (Slots.cons rfl (by first | exact .refl _ | exact .nilOwn _ _ | exact .nilSl _ | exact .ownSl _ _ _ | exact SV.le.of_eq (by simp)) Slots.nil)))))), (by first | exact List.Sublist.refl _ | exact List.nil_sublist _ | exact .cons _ (.refl _) | exact .cons _ (.cons _ (.refl _)) | exact .cons _ (.cons _ (.cons _ (.refl _))) | exact .cons _ (.cons _ (.cons _ (.cons _ (.refl _)))) | exact .cons_cons _ (List.nil_sublist _))⟩ ⟨0, rfl, rfl, Nat.zero_le _, (by simp)⟩ ?_
      rintro nn0 _ ⟨k, rfl, rfl, hk, hs⟩
      refine awp_seq ?_
      refine awp_region ?_
      refine r_cmp rfl rfl rfl rfl ?_
      refine awl_nil ?_
      refine x_then ?_
      refine awp_seq ?_
      refine awp_cond rfl (fun hc2 => ?_) (fun hc2 => ?_)
      ·
        have hlt : k < nums.length := by have := of_decide_eq_true hc2; simpa using this
        obtain ⟨x, hx⟩ := get_lt hlt
        refine awp_skip ?_
        refine x_then ?_
        refine awp_seq ?_
        refine awp_block ?_
        refine awp_seq ?_
        refine awp_region ?_
        refine r_move rfl rfl ?_
        refine r_assign rfl rfl ?_
        refine awl_nil ?_
        refine x_then ?_
        refine awp_seq ?_
        rcases Bool.eq_false_or_eq_true ((x : Int) == 0) with hg31 | hg31
        ·
          refine awp_drawS [26, 27, 28, 29, 30, 31, 32, 33, 34, 35, 36, 37, 38, 39, 40, 41, 42, 43] [_, _, _, _, _, _, _, _, _, _, _, _, _, _, _, _, _, _] [] [] T.mixed rfl rfl rfl ⟨⟨⟨⟨⟨⟨⟨⟨⟨⟨⟨⟨⟨⟨⟨⟨⟨⟨trivial
            , ⟨_, rfl, fun sl hd hr ho => by
                refine r_move (hr 1 _ rfl rfl rfl) rfl ?_
                exact awl_nil ⟨rfl, post_put⟩⟩⟩
            , ⟨_, rfl, fun sl hd hr ho => by
                refine r_move (hr 7 _ rfl rfl rfl) rfl ?_
                exact awl_nil ⟨rfl, post_put⟩⟩⟩
            , ⟨_, rfl, fun sl hd hr ho => by
                refine r_index (hd 0 _ rfl rfl rfl) rfl (hd 1 _ rfl rfl rfl) T.sl23 T.sz30 (by omega) (get_map hx) rfl ?_
                exact awl_nil ⟨rfl, post_put⟩⟩⟩
            , ⟨_, rfl, fun sl hd hr ho => by
                refine r_load1 (hd 2 _ rfl rfl rfl) T.agg30 rfl ?_
                exact awl_nil ⟨rfl, post_put⟩⟩⟩
            , ⟨_, rfl, fun sl hd hr ho => by
                refine r_cmp (hd 3 _ rfl rfl rfl) rfl rfl rfl ?_
                exact awl_nil ⟨rfl, post_put⟩⟩⟩
            , ⟨_, rfl, fun sl hd hr ho => by
                refine r_move (hd 4 _ rfl rfl rfl) rfl ?_
                exact awl_nil ⟨rfl, post_put⟩⟩⟩
            , ⟨_, rfl, fun sl hd hr ho => by
                refine g_skip rfl (hd 5 _ rfl rfl rfl) hg31 rfl ?_
                exact awl_nil ⟨rfl, post_put⟩⟩⟩
            , ⟨_, rfl, fun sl hd hr ho => by
                refine g_skip rfl (hd 5 _ rfl rfl rfl) hg31 rfl ?_
                exact awl_nil ⟨rfl, post_put⟩⟩⟩
            , ⟨_, rfl, fun sl hd hr ho => by
                refine g_skip rfl (hd 5 _ rfl rfl rfl) hg31 rfl ?_
                exact awl_nil ⟨rfl, post_put⟩⟩⟩
            , ⟨_, rfl, fun sl hd hr ho => by
                refine g_skipU rfl (hd 8 _ rfl rfl rfl) rfl ?_
                exact awl_nil ⟨rfl, post_put⟩⟩⟩
            , ⟨_, rfl, fun sl hd hr ho => by
                refine g_skipU rfl (hd 8 _ rfl rfl rfl) rfl ?_
                exact awl_nil ⟨rfl, post_put⟩⟩⟩
            , ⟨_, rfl, fun sl hd hr ho => by
                refine g_skipU rfl (hd 8 _ rfl rfl rfl) rfl ?_
                exact awl_nil ⟨rfl, post_put⟩⟩⟩
            , ⟨_, rfl, fun sl hd hr ho => by
                refine g_skipU rfl (hd 8 _ rfl rfl rfl) rfl ?_
                exact awl_nil ⟨rfl, post_put⟩⟩⟩
            , ⟨_, rfl, fun sl hd hr ho => by
                refine g_skipU rfl (hd 8 _ rfl rfl rfl) rfl ?_
                exact awl_nil ⟨rfl, post_put⟩⟩⟩
            , ⟨_, rfl, fun sl hd hr ho => by
                refine g_skipU rfl (hd 8 _ rfl rfl rfl) rfl ?_
                exact awl_nil ⟨rfl, post_put⟩⟩⟩
            , ⟨_, rfl, fun sl hd hr ho => by
                refine g_skipU rfl (hd 8 _ rfl rfl rfl) rfl ?_
                exact awl_nil ⟨rfl, post_put⟩⟩⟩
            , ⟨_, rfl, fun sl hd hr ho => by
                refine g_skipU rfl (hd 8 _ rfl rfl rfl) rfl ?_
                exact awl_nil ⟨rfl, post_put⟩⟩⟩
            , ⟨_, rfl, fun sl hd hr ho => by
                refine g_skipU rfl (hd 8 _ rfl rfl rfl) rfl ?_
                exact awl_nil ⟨rfl, post_put⟩⟩⟩
            (by rfl) ?_
          refine g_skipU rfl rfl rfl ?_
          refine g_skip rfl rfl hg31 rfl ?_
          refine r_pickT rfl hg31 rfl rfl ?_
          refine awl_nil ?_
          refine x_then ?_
          refine awp_condT rfl ?_
          refine awp_seq ?_
          refine awp_region ?_
          refine r_assign rfl rfl ?_
          refine awl_nil ?_
          refine x_then ?_
          refine awp_ret ?_
          refine x_blockR ?_
          refine x_thenR ?_
          refine x_thenR ?_
          refine x_blockR ?_
          refine x_thenR ?_
          exact ⟨(.inl rfl), _, [], (.one (by first | exact .mk rfl rfl | exact .nil rfl)), ⟨rfl, rfl⟩, (List.nil_sublist _), (by simp)⟩
        ·
          rcases Bool.eq_false_or_eq_true (decide (0 < (k : Int))) with hg34 | hg34
          ·
            have hk0 := of_decide_eq_true hg34
            obtain ⟨y, hy⟩ : ∃ y, nums[k - 1]? = some y := get_lt (by omega)
            refine awp_drawS [26, 27, 28, 29, 30, 31, 32, 33, 34, 35, 36, 37, 38, 39, 40, 41, 42, 43] [_, _, _, _, _, _, _, _, _, _, _, _, _, _, _, _, _, _] [] [] T.mixed rfl rfl rfl ⟨⟨⟨⟨⟨⟨⟨⟨⟨⟨⟨⟨⟨⟨⟨⟨⟨⟨trivial
              , ⟨_, rfl, fun sl hd hr ho => by
                  refine r_move (hr 1 _ rfl rfl rfl) rfl ?_
                  exact awl_nil ⟨rfl, post_put⟩⟩⟩
              , ⟨_, rfl, fun sl hd hr ho => by
                  refine r_move (hr 7 _ rfl rfl rfl) rfl ?_
                  exact awl_nil ⟨rfl, post_put⟩⟩⟩
              , ⟨_, rfl, fun sl hd hr ho => by
                  refine r_index (hd 0 _ rfl rfl rfl) rfl (hd 1 _ rfl rfl rfl) T.sl23 T.sz30 (by omega) (get_map hx) rfl ?_
                  exact awl_nil ⟨rfl, post_put⟩⟩⟩
              , ⟨_, rfl, fun sl hd hr ho => by
                  refine r_load1 (hd 2 _ rfl rfl rfl) T.agg30 rfl ?_
                  exact awl_nil ⟨rfl, post_put⟩⟩⟩
              , ⟨_, rfl, fun sl hd hr ho => by
                  refine r_cmp (hd 3 _ rfl rfl rfl) rfl rfl rfl ?_
                  exact awl_nil ⟨rfl, post_put⟩⟩⟩
              , ⟨_, rfl, fun sl hd hr ho => by
                  refine r_move (hd 4 _ rfl rfl rfl) rfl ?_
                  exact awl_nil ⟨rfl, post_put⟩⟩⟩
              , ⟨_, rfl, fun sl hd hr ho => by
                  refine g_run rfl (hd 5 _ rfl rfl rfl) hg31 ?_
                  refine r_move (hr 7 _ rfl rfl rfl) rfl ?_
                  exact awl_nil ⟨rfl, post_put⟩⟩⟩
              , ⟨_, rfl, fun sl hd hr ho => by
                  refine g_run rfl (hd 5 _ rfl rfl rfl) hg31 ?_
                  refine r_cmp (hd 6 _ rfl rfl rfl) rfl rfl rfl ?_
                  exact awl_nil ⟨rfl, post_put⟩⟩⟩
              , ⟨_, rfl, fun sl hd hr ho => by
                  refine g_run rfl (hd 5 _ rfl rfl rfl) hg31 ?_
                  refine r_move (hd 7 _ rfl rfl rfl) rfl ?_
                  exact awl_nil ⟨rfl, post_put⟩⟩⟩
              , ⟨_, rfl, fun sl hd hr ho => by
                  refine g_run rfl (hd 8 _ rfl rfl rfl) hg34 ?_
                  refine r_move (hr 1 _ rfl rfl rfl) rfl ?_
                  exact awl_nil ⟨rfl, post_put⟩⟩⟩
              , ⟨_, rfl, fun sl hd hr ho => by
                  refine g_run rfl (hd 8 _ rfl rfl rfl) hg34 ?_
                  refine r_move (hr 7 _ rfl rfl rfl) rfl ?_
                  exact awl_nil ⟨rfl, post_put⟩⟩⟩
              , ⟨_, rfl, fun sl hd hr ho => by
                  refine g_run rfl (hd 8 _ rfl rfl rfl) hg34 ?_
                  refine r_ari _ (hd 10 _ rfl rfl rfl) rfl rfl (wrap_id (by omega)) rfl ?_
                  exact awl_nil ⟨rfl, post_put⟩⟩⟩
              , ⟨_, rfl, fun sl hd hr ho => by
                  refine g_run rfl (hd 8 _ rfl rfl rfl) hg34 ?_
                  refine r_index (hd 9 _ rfl rfl rfl) rfl (hd 11 _ rfl rfl rfl) T.sl23 T.sz30 (by omega) (by rw [show ((k : Int) - 1).toNat = k - 1 by omega]; exact get_map hy) rfl ?_
                  exact awl_nil ⟨rfl, post_put⟩⟩⟩
              , ⟨_, rfl, fun sl hd hr ho => by
                  refine g_run rfl (hd 8 _ rfl rfl rfl) hg34 ?_
                  refine r_load1 (hd 12 _ rfl rfl rfl) T.agg30 rfl ?_
                  exact awl_nil ⟨rfl, post_put⟩⟩⟩
              , ⟨_, rfl, fun sl hd hr ho => by
                  refine g_run rfl (hd 8 _ rfl rfl rfl) hg34 ?_
                  refine r_move (hr 1 _ rfl rfl rfl) rfl ?_
                  exact awl_nil ⟨rfl, post_put⟩⟩⟩
              , ⟨_, rfl, fun sl hd hr ho => by
                  refine g_run rfl (hd 8 _ rfl rfl rfl) hg34 ?_
                  refine r_move (hr 7 _ rfl rfl rfl) rfl ?_
                  exact awl_nil ⟨rfl, post_put⟩⟩⟩
              , ⟨_, rfl, fun sl hd hr ho => by
                  refine g_run rfl (hd 8 _ rfl rfl rfl) hg34 ?_
                  refine r_index (hd 14 _ rfl rfl rfl) rfl (hd 15 _ rfl rfl rfl) T.sl23 T.sz30 (by omega) (get_map hx) rfl ?_
                  exact awl_nil ⟨rfl, post_put⟩⟩⟩
              , ⟨_, rfl, fun sl hd hr ho => by
                  refine g_run rfl (hd 8 _ rfl rfl rfl) hg34 ?_
                  refine r_load1 (hd 16 _ rfl rfl rfl) T.agg30 rfl ?_
                  exact awl_nil ⟨rfl, post_put⟩⟩⟩
              (by rfl) ?_
            refine g_run rfl rfl hg34 ?_
            refine r_cmp rfl rfl rfl rfl ?_
            refine g_run rfl rfl hg31 ?_
            refine r_pickT rfl hg34 rfl rfl ?_
            refine r_pickF rfl hg31 rfl rfl ?_
            refine awl_nil ?_
            refine x_then ?_
            refine awp_cond rfl (fun hc3 => ?_) (fun hc3 => ?_)
            ·
              refine awp_seq ?_
              refine awp_region ?_
              refine r_assign rfl rfl ?_
              refine awl_nil ?_
              refine x_then ?_
              refine awp_ret ?_
              refine x_blockR ?_
              refine x_thenR ?_
              refine x_thenR ?_
              refine x_blockR ?_
              refine x_thenR ?_
              exact ⟨(.inl rfl), _, [], (.one (by first | exact .mk rfl rfl | exact .nil rfl)), ⟨rfl, rfl⟩, (List.nil_sublist _), (by simp)⟩
            ·
              first | have hs0 := hs' | have hs' : (nums.take (k + 1)).Pairwise (· < ·) := rise_step (by omega) hy hx hs (by have := of_decide_eq_false hc3; omega)
              refine awp_skip ?_
              refine x_block ?_
              refine x_then ?_
              refine awp_region ?_
              refine r_ari _ rfl rfl rfl (wrap_id (by omega)) rfl ?_
              refine r_move rfl rfl ?_
              refine awl_nil ?_
              refine x_then ?_
              refine ⟨nums.length - (k + 1), ⟨108, [(0, .a (momentsA l)), (1, .a (numsA nums)), (5, .a (.cp [u8A not])), (21, .a (numsA nums)), (22, .a (.v (.int .i64 ((nums.map fun x => [AV.v (.int .u64 x)]).length)))), (23, .a (.v (.int .i64 (((k + 1) : Int)))))], []⟩, ⟨rfl, (Slots.cons rfl (by first | exact .refl _ | exact .nilOwn _ _ | exact .nilSl _ | exact .ownSl _ _ _ | exact SV.le.of_eq (by simp)) (Slots.cons rfl (by first | exact .refl _ | exact .nilOwn _ _ | exact .nilSl _ | exact .ownSl _ _ _ | exact SV.le.of_eq (by simp)) (Slots.cons rfl (by first | exact .refl _ | exact .nilOwn _ _ | exact .nilSl _ | exact .ownSl _ _ _ | exact SV.le.of_eq (by simp)) (Slots.cons rfl (by first | exact .refl _ | exact .nilOwn _ _ | exact .nilSl _ | exact .ownSl _ _ _ | exact SV.le.of_eq (by simp)) (Slots.cons rfl (by first | exact .refl _ | exact .nilOwn _ _ | exact .nilSl _ | exact .ownSl _ _ _ | exact SV.le.of_eq (by simp)) (Slots.cons rfl (by first | exact .refl _ | exact .nilOwn _ _ | exact .nilSl _ | exact .ownSl _ _ _ | exact SV.le.of_eq (by simp)) Slots.nil)))))), (by first | exact List.Sublist.refl _ | exact List.nil_sublist _ | exact .cons _ (.refl _) | exact .cons _ (.cons _ (.refl _)) | exact .cons _ (.cons _ (.cons _ (.refl _))) | exact .cons _ (.cons _ (.cons _ (.cons _ (.refl _)))) | exact .cons_cons _ (List.nil_sublist _))⟩, (by omega), ⟨k + 1, rfl, rfl, (by have := (List.getElem?_eq_some_iff.1 hx).1; omega), hs'⟩⟩
          ·
            have hs' : (nums.take (k + 1)).Pairwise (· < ·) := by
              have : k = 0 := by have := of_decide_eq_false hg34; omega
              subst this; cases nums <;> simp
            refine awp_drawS [26, 27, 28, 29, 30, 31, 32, 33, 34, 35, 36, 37, 38, 39, 40, 41, 42, 43] [_, _, _, _, _, _, _, _, _, _, _, _, _, _, _, _, _, _] [] [] T.mixed rfl rfl rfl ⟨⟨⟨⟨⟨⟨⟨⟨⟨⟨⟨⟨⟨⟨⟨⟨⟨⟨trivial
              , ⟨_, rfl, fun sl hd hr ho => by
                  refine r_move (hr 1 _ rfl rfl rfl) rfl ?_
                  exact awl_nil ⟨rfl, post_put⟩⟩⟩
              , ⟨_, rfl, fun sl hd hr ho => by
                  refine r_move (hr 7 _ rfl rfl rfl) rfl ?_
                  exact awl_nil ⟨rfl, post_put⟩⟩⟩
              , ⟨_, rfl, fun sl hd hr ho => by
                  refine r_index (hd 0 _ rfl rfl rfl) rfl (hd 1 _ rfl rfl rfl) T.sl23 T.sz30 (by omega) (get_map hx) rfl ?_
                  exact awl_nil ⟨rfl, post_put⟩⟩⟩
              , ⟨_, rfl, fun sl hd hr ho => by
                  refine r_load1 (hd 2 _ rfl rfl rfl) T.agg30 rfl ?_
                  exact awl_nil ⟨rfl, post_put⟩⟩⟩
              , ⟨_, rfl, fun sl hd hr ho => by
                  refine r_cmp (hd 3 _ rfl rfl rfl) rfl rfl rfl ?_
                  exact awl_nil ⟨rfl, post_put⟩⟩⟩
              , ⟨_, rfl, fun sl hd hr ho => by
                  refine r_move (hd 4 _ rfl rfl rfl) rfl ?_
                  exact awl_nil ⟨rfl, post_put⟩⟩⟩
              , ⟨_, rfl, fun sl hd hr ho => by
                  refine g_run rfl (hd 5 _ rfl rfl rfl) hg31 ?_
                  refine r_move (hr 7 _ rfl rfl rfl) rfl ?_
                  exact awl_nil ⟨rfl, post_put⟩⟩⟩
              , ⟨_, rfl, fun sl hd hr ho => by
                  refine g_run rfl (hd 5 _ rfl rfl rfl) hg31 ?_
                  refine r_cmp (hd 6 _ rfl rfl rfl) rfl rfl rfl ?_
                  exact awl_nil ⟨rfl, post_put⟩⟩⟩
              , ⟨_, rfl, fun sl hd hr ho => by
                  refine g_run rfl (hd 5 _ rfl rfl rfl) hg31 ?_
                  refine r_move (hd 7 _ rfl rfl rfl) rfl ?_
                  exact awl_nil ⟨rfl, post_put⟩⟩⟩
              , ⟨_, rfl, fun sl hd hr ho => by
                  refine g_skip rfl (hd 8 _ rfl rfl rfl) hg34 rfl ?_
                  exact awl_nil ⟨rfl, post_put⟩⟩⟩
              , ⟨_, rfl, fun sl hd hr ho => by
                  refine g_skip rfl (hd 8 _ rfl rfl rfl) hg34 rfl ?_
                  exact awl_nil ⟨rfl, post_put⟩⟩⟩
              , ⟨_, rfl, fun sl hd hr ho => by
                  refine g_skip rfl (hd 8 _ rfl rfl rfl) hg34 rfl ?_
                  exact awl_nil ⟨rfl, post_put⟩⟩⟩
              , ⟨_, rfl, fun sl hd hr ho => by
                  refine g_skip rfl (hd 8 _ rfl rfl rfl) hg34 rfl ?_
                  exact awl_nil ⟨rfl, post_put⟩⟩⟩
              , ⟨_, rfl, fun sl hd hr ho => by
                  refine g_skip rfl (hd 8 _ rfl rfl rfl) hg34 rfl ?_
                  exact awl_nil ⟨rfl, post_put⟩⟩⟩
              , ⟨_, rfl, fun sl hd hr ho => by
                  refine g_skip rfl (hd 8 _ rfl rfl rfl) hg34 rfl ?_
                  exact awl_nil ⟨rfl, post_put⟩⟩⟩
              , ⟨_, rfl, fun sl hd hr ho => by
                  refine g_skip rfl (hd 8 _ rfl rfl rfl) hg34 rfl ?_
                  exact awl_nil ⟨rfl, post_put⟩⟩⟩
              , ⟨_, rfl, fun sl hd hr ho => by
                  refine g_skip rfl (hd 8 _ rfl rfl rfl) hg34 rfl ?_
                  exact awl_nil ⟨rfl, post_put⟩⟩⟩
              , ⟨_, rfl, fun sl hd hr ho => by
                  refine g_skip rfl (hd 8 _ rfl rfl rfl) hg34 rfl ?_
                  exact awl_nil ⟨rfl, post_put⟩⟩⟩
              (by rfl) ?_
            refine g_skip rfl rfl hg34 rfl ?_
            refine g_run rfl rfl hg31 ?_
            refine r_pickF rfl hg34 rfl rfl ?_
            refine r_pickF rfl hg31 rfl rfl ?_
            refine awl_nil ?_
            refine x_then ?_
            refine awp_cond rfl (fun hc3 => ?_) (fun hc3 => ?_)
            ·
              refine awp_seq ?_
              refine awp_region ?_
              refine r_assign rfl rfl ?_
              refine awl_nil ?_
              refine x_then ?_
              refine awp_ret ?_
              refine x_blockR ?_
              refine x_thenR ?_
              refine x_thenR ?_
              refine x_blockR ?_
              refine x_thenR ?_
              exact ⟨(.inl rfl), _, [], (.one (by first | exact .mk rfl rfl | exact .nil rfl)), ⟨rfl, rfl⟩, (List.nil_sublist _), (by simp)⟩
            ·
              first | have hs0 := hs' | have hs' : (nums.take (k + 1)).Pairwise (· < ·) := rise_step (by omega) hy hx hs (by have := of_decide_eq_false hc3; omega)
              refine awp_skip ?_
              refine x_block ?_
              refine x_then ?_
              refine awp_region ?_
              refine r_ari _ rfl rfl rfl (wrap_id (by omega)) rfl ?_
              refine r_move rfl rfl ?_
              refine awl_nil ?_
              refine x_then ?_
              refine ⟨nums.length - (k + 1), ⟨108, [(0, .a (momentsA l)), (1, .a (numsA nums)), (5, .a (.cp [u8A not])), (21, .a (numsA nums)), (22, .a (.v (.int .i64 ((nums.map fun x => [AV.v (.int .u64 x)]).length)))), (23, .a (.v (.int .i64 (((k + 1) : Int)))))], []⟩, ⟨rfl, (Slots.cons rfl (by first | exact .refl _ | exact .nilOwn _ _ | exact .nilSl _ | exact .ownSl _ _ _ | exact SV.le.of_eq (by simp)) (Slots.cons rfl (by first | exact .refl _ | exact .nilOwn _ _ | exact .nilSl _ | exact .ownSl _ _ _ | exact SV.le.of_eq (by simp)) (Slots.cons rfl (by first | exact .refl _ | exact .nilOwn _ _ | exact .nilSl _ | exact .ownSl _ _ _ | exact SV.le.of_eq (by simp)) (Slots.cons rfl (by first | exact .refl _ | exact .nilOwn _ _ | exact .nilSl _ | exact .ownSl _ _ _ | exact SV.le.of_eq (by simp)) (Slots.cons rfl (by first | exact .refl _ | exact .nilOwn _ _ | exact .nilSl _ | exact .ownSl _ _ _ | exact SV.le.of_eq (by simp)) (Slots.cons rfl (by first | exact .refl _ | exact .nilOwn _ _ | exact .nilSl _ | exact .ownSl _ _ _ | exact SV.le.of_eq (by simp)) Slots.nil)))))), (by first | exact List.Sublist.refl _ | exact List.nil_sublist _ | exact .cons _ (.refl _) | exact .cons _ (.cons _ (.refl _)) | exact .cons _ (.cons _ (.cons _ (.refl _))) | exact .cons _ (.cons _ (.cons _ (.cons _ (.refl _)))) | exact .cons_cons _ (List.nil_sublist _))⟩, (by omega), ⟨k + 1, rfl, rfl, (by have := (List.getElem?_eq_some_iff.1 hx).1; omega), hs'⟩⟩
      ·
        have hge : nums.length ≤ k := by have := of_decide_eq_false hc2; simp at this; omega
        rw [List.take_of_length_le hge] at hs
        refine awp_exit ?_
        refine x_thenE ?_
        refine x_thenE ?_
        refine x_blockE ?_
        refine x_then ?_
        refine awp_seq ?_
        refine awp_seq ?_
        refine awp_drawS [48, 49, 50, 51, 52, 53, 54, 55] [_, _, _, _, _, _, _, _] [] [] T.mixed rfl rfl rfl ⟨⟨⟨⟨⟨⟨⟨⟨trivial
          , ⟨_, rfl, fun sl hd hr ho => by
              refine r_move (hr 1 _ rfl rfl rfl) rfl ?_
              exact awl_nil ⟨rfl, post_put⟩⟩⟩
          , ⟨_, rfl, fun sl hd hr ho => by
              refine r_move (hr 0 _ rfl rfl rfl) rfl ?_
              exact awl_nil ⟨rfl, post_put⟩⟩⟩
          , ⟨_, rfl, fun sl hd hr ho => by
              refine r_call0 rfl rfl (.cons (.ev (hd 1 _ rfl rfl rfl) rfl) .nil) (atf_ok l) rfl T.en12 rfl (fun r hr => ?_)
              obtain rfl := hr
              exact awl_nil ⟨rfl, post_put⟩⟩⟩
          , ⟨_, rfl, fun sl hd hr ho => by
              refine r_load1 (hr 5 _ rfl rfl rfl) T.agg5 rfl ?_
              exact awl_nil ⟨rfl, post_put⟩⟩⟩
          , ⟨_, rfl, fun sl hd hr ho => by
              refine r_call0 rfl rfl (.cons (.ev (hd 3 _ rfl rfl rfl) rfl) .nil) (wholef_ok not) rfl T.en15 rfl (fun r hr => ?_)
              obtain rfl := hr
              exact awl_nil ⟨rfl, post_put⟩⟩⟩
          , ⟨_, rfl, fun sl hd hr ho => by
              refine r_call0 rfl rfl (.cons (.ev (hd 0 _ rfl rfl rfl) rfl) (.cons (.ev (hd 2 _ rfl rfl rfl) rfl) (.cons (.ev (hd 4 _ rfl rfl rfl) rfl) .nil))) (plan_whole not rfl h.sane h.look (by omega)) rfl T.en11 rfl (fun r hr => ?_)
              obtain rfl := hr
              exact awl_nil ⟨rfl, post_put⟩⟩⟩
          , ⟨_, rfl, fun sl hd hr ho => by
              first | (refine r_lenS (hd 5 _ rfl rfl rfl) rfl T.sl26 rfl ?_) | (refine r_lenNil (hd 5 _ rfl rfl rfl) T.sl26 rfl ?_)
              exact awl_nil ⟨rfl, post_put⟩⟩⟩
          , ⟨_, rfl, fun sl hd hr ho => by
              refine r_move rfl rfl ?_
              exact awl_nil ⟨rfl, post_put⟩⟩⟩
          (by rfl) ?_
        refine awl_nil ?_
        refine x_then ?_
        refine awp_block ?_
        have hp : PlanOk not (rplanOf (lookM l) not nums) := plan_facts h.look not (by omega)
        have hpast : ∀ c ∈ rplanOf (lookM l) not nums, PastOk not nums (versOf (lookM l) c.name nums) c := fun c hc => past_ok _ _ hs hc
        generalize rplanOf (lookM l) not nums = cs at hp hpast ⊢
        have hcl := hp.len
        refine awp_loop (fun nn0 S => ∃ k : Nat, S = ⟨108, [(0, .a (momentsA l)), (1, .a (numsA nums)), (5, .a (.cp [u8A not])), (53, .a (choicesA cs)), (54, .a (.v (.int .i64 ((cs.map Choice.cs).length)))), (55, .a (.v (.int .i64 ((k : Int)))))], []⟩ ∧ nn0 = cs.length - k ∧ (k ≤ cs.length)) (cs.length - (0)) ⟨108, [(0, .a (momentsA l)), (1, .a (numsA nums)), (5, .a (.cp [u8A not])), (53, .a (choicesA cs)), (54, .a (.v (.int .i64 ((cs.map Choice.cs).length)))), (55, .a (.v (.int .i64 (((0) : Int)))))], []⟩ ⟨rfl, (Slots.cons rfl (by first | exact .refl _ | exact .nilOwn _ _ | exact .nilSl _ | exact .ownSl _ _ _ | exact SV.le.of_eq (by simp)) (Slots.cons rfl (by first | exact .refl _ | exact .nilOwn _ _ | exact .nilSl _ | exact .ownSl _ _ _ | exact SV.le.of_eq (by simp)) (Slots.cons rfl (by first | exact .refl _ | exact .nilOwn _ _ | exact .nilSl _ | exact .ownSl _ _ _ | exact SV.le.of_eq (by simp)) (Slots.cons rfl (by first | exact .refl _ | exact .nilOwn _ _ | exact .nilSl _ | exact .ownSl _ _ _ | exact SV.le.of_eq (by simp)) (Slots.cons rfl (by first | exact .refl _ | exact .nilOwn _ _ | exact .nilSl _ | exact .ownSl _ _ _ | exact SV.le.of_eq (by simp)) (Slots.cons rfl (by first | exact .refl _ | exact .nilOwn _ _ | exact .nilSl _ | exact .ownSl _ _ _ | exact SV.le.of_eq (by simp)) Slots.nil)))))), (by first | exact List.Sublist.refl _ | exact List.nil_sublist _ | exact .cons _ (.refl _) | exact .cons _ (.cons _ (.refl _)) | exact .cons _ (.cons _ (.cons _ (.refl _))) | exact .cons _ (.cons _ (.cons _ (.cons _ (.refl _)))) | exact .cons_cons _ (List.nil_sublist _))⟩ ⟨0, rfl, rfl, Nat.zero_le _⟩ ?_
        rintro nn0 _ ⟨k, rfl, rfl, hk⟩
        refine awp_seq ?_
        refine awp_region ?_
        refine r_cmp rfl rfl rfl rfl ?_
        refine awl_nil ?_
        refine x_then ?_
        refine awp_seq ?_
        refine awp_cond rfl (fun hc4 => ?_) (fun hc4 => ?_)
        ·
          have hlt : k < cs.length := by have := of_decide_eq_true hc4; simpa using this
          obtain ⟨c, hcx⟩ := get_lt hlt
          have hpc := hpast c (List.mem_of_getElem? hcx)
          have hvl : (versOf (lookM l) c.name nums).length ≤ nums.length := by have := vers_len (lookM l) c.name nums []; simpa [versOf] using this
          have hvd := vers_data h.look c.name nums [] (by simp)
          refine awp_skip ?_
          refine x_then ?_
          refine awp_seq ?_
          refine awp_block ?_
          refine awp_seq ?_
          refine awp_region ?_
          refine r_index rfl rfl rfl T.sl26 T.sz33 (by omega) (get_map hcx) rfl ?_
          refine r_loadA rfl T.agg33 T.sz33 rfl rfl ?_
          refine r_alloc T.zero33 rfl (fun b9 => ?_)
          refine r_store 0 rfl rfl rfl T.sz33 rfl rfl rfl ?_
          refine awl_nil ?_
          refine x_then ?_
          refine awp_seq ?_
          refine awp_drawS [59, 60, 61, 62, 63] [_, _, _, _, _] [] [] T.mixed rfl rfl rfl ⟨⟨⟨⟨⟨trivial
            , ⟨_, rfl, fun sl hd hr ho => by
                refine r_move (hr 1 _ rfl rfl rfl) rfl ?_
                exact awl_nil ⟨rfl, post_put⟩⟩⟩
            , ⟨_, rfl, fun sl hd hr ho => by
                refine r_move (hr 0 _ rfl rfl rfl) rfl ?_
                exact awl_nil ⟨rfl, post_put⟩⟩⟩
            , ⟨_, rfl, fun sl hd hr ho => by
                refine r_call0 rfl rfl (.cons (.ev (hd 1 _ rfl rfl rfl) rfl) .nil) (atf_ok l) rfl T.en12 rfl (fun r hr => ?_)
                obtain rfl := hr
                exact awl_nil ⟨rfl, post_put⟩⟩⟩
            , ⟨_, rfl, fun sl hd hr ho => by
                first | (refine r_fieldcp (hr 9 _ rfl rfl rfl) T.f33_0 T.sz9 rfl ?_) | (refine r_fieldb (hr 9 _ rfl rfl rfl) T.f33_0 T.sz9 rfl ?_)
                exact awl_nil ⟨rfl, post_put⟩⟩⟩
            , ⟨_, rfl, fun sl hd hr ho => by
                first | (refine r_load1 (hd 3 _ rfl rfl rfl) T.agg9 rfl ?_) | (refine r_load1b 0 (hd 3 _ rfl rfl rfl) rfl rfl T.agg9 rfl ?_)
                exact awl_nil ⟨rfl, post_put⟩⟩⟩
            (by rfl) ?_
          refine r_call0 rfl rfl (.cons (.ev rfl rfl) (.cons (.ev rfl rfl) (.cons (.ev rfl rfl) .nil))) (of_ok nums (lookM l) c.name (by omega) h.look.fs T.en32 (fun m _ => at1_ok l m h.sane)) rfl T.en25 rfl (fun r hr => ?_)
          obtain rfl := hr
          refine r_assign rfl rfl ?_
          refine awl_nil ?_
          refine x_then ?_
          refine awp_seq ?_
          refine awp_region ?_
          refine r_move rfl rfl ?_
          refine r_makeFunc rfl (.cons (.ev rfl rfl) .nil) rfl ?_
          refine r_call0 rfl rfl (.cons (.ev rfl rfl) (.cons (.ev rfl rfl) .nil)) (last_ok (versOf (lookM l) c.name nums) not (by omega) hvd) rfl T.en26 rfl (fun r hr => ?_)
          obtain rfl := hr
          rw [lastR_eq]
          change ∀ v ∈ (versOf (lookM l) c.name nums), _ at hvd
          generalize (versOf (lookM l) c.name nums) = vs at hpc hvl hvd ⊢
          refine r_move rfl rfl ?_
          refine r_extract rfl rfl rfl ?_
          refine r_extract rfl rfl rfl ?_
          refine r_assign rfl rfl ?_
          refine r_assign rfl rfl ?_
          refine awl_nil ?_
          refine x_then ?_
          refine awp_seq ?_
          refine awp_seq ?_
          refine awp_region ?_
          refine r_move rfl rfl ?_
          first | (refine r_fieldcp rfl T.f33_2 T.sz4 rfl ?_) | (refine r_fieldb rfl T.f33_2 T.sz4 rfl ?_)
          first | (refine r_load1 rfl T.agg4 rfl ?_) | (refine r_load1b 0 rfl rfl rfl T.agg4 rfl ?_)
          refine r_bne rfl rfl T.un4 rfl ?_
          refine r_move rfl rfl ?_
          refine g_run rfl rfl (by rw [hpc.ok]; simp) ?_
          refine r_move rfl rfl ?_
          refine g_run rfl rfl (by rw [hpc.ok]; simp) ?_
          refine r_move rfl rfl ?_
          refine g_cases (t' := 77) rfl (fun hg77 => ?_) (fun hg77 => ?_)
          ·
            obtain ⟨v, hv⟩ := Option.isSome_iff_exists.1 hg77
            obtain ⟨hv1, hv2⟩ := hpc.has v hv
            refine g_run rfl rfl hg77 ?_
            refine r_move rfl rfl ?_
            refine g_run rfl rfl hg77 ?_
            first | (refine r_fieldcp rfl T.f33_1 T.sz30 rfl ?_) | (refine r_fieldb rfl T.f33_1 T.sz30 rfl ?_)
            refine g_run rfl rfl hg77 ?_
            first | (refine r_load1 rfl T.agg30 rfl ?_) | (refine r_load1b 0 rfl rfl rfl T.agg30 rfl ?_)
            refine g_run rfl rfl hg77 ?_
            refine r_cmp rfl rfl rfl rfl ?_
            refine g_run rfl rfl (by rw [hpc.ok]; simp) ?_
            refine r_pickT rfl hg77 rfl rfl ?_
            refine r_pickF rfl (by rw [hpc.ok]; simp) rfl rfl ?_
            refine awl_nil ?_
            refine x_then ?_
            refine awp_cond rfl (fun hc5 => ?_) (fun hc5 => ?_)
            ·
              exfalso; first | exact absurd hc5 (by decide) | (rw [hv] at hc5; have := of_decide_eq_true hc5; simp at this; omega)
            ·
              refine awp_skip ?_
              refine x_then ?_
              refine awp_seq ?_
              refine awp_region ?_
              refine r_move rfl rfl ?_
              first | (refine r_lenS rfl rfl T.sl63 rfl ?_) | (refine r_lenNil rfl T.sl63 rfl ?_)
              refine r_move rfl rfl ?_
              refine awl_nil ?_
              refine x_then ?_
              refine awp_block ?_
              refine awp_loop (fun nn0 S => ∃ j : Nat, S = ⟨108, [(0, .a (momentsA l)), (1, .a (numsA nums)), (5, .a (.cp [u8A not])), (53, .a (choicesA cs)), (54, .a (.v (.int .i64 ((cs.map Choice.cs).length)))), (55, .a (.v (.int .i64 ((k : Int))))), (9, .a (.v (.pointer (some ⟨b9, 0, none⟩)))), (11, .a (.v (.int .u64 (((lastG not vs).map (·.frm)).getD 0)))), (12, .a (boolA (lastG not vs).isSome)), (84, .a (versA vs)), (85, .a (.v (.int .i64 ((vs.map Ver.cs).length)))), (86, .a (.v (.int .i64 ((j : Int)))))], [⟨b9, true, .box (Choice.cs c)⟩]⟩ ∧ nn0 = vs.length - j ∧ (j ≤ vs.length)) (vs.length - (0)) ⟨108, [(0, .a (momentsA l)), (1, .a (numsA nums)), (5, .a (.cp [u8A not])), (53, .a (choicesA cs)), (54, .a (.v (.int .i64 ((cs.map Choice.cs).length)))), (55, .a (.v (.int .i64 ((k : Int))))), (9, .a (.v (.pointer (some ⟨b9, 0, none⟩)))), (11, .a (.v (.int .u64 (((lastG not vs).map (·.frm)).getD 0)))), (12, .a (boolA (lastG not vs).isSome)), (84, .a (versA vs)), (85, .a (.v (.int .i64 ((vs.map Ver.cs).length)))), (86, .a (.v (.int .i64 (((0) : Int)))))], [⟨b9, true, .box (Choice.cs c)⟩]⟩ ⟨rfl, (Slots.cons rfl (by first | exact .refl _ | exact .nilOwn _ _ | exact .nilSl _ | exact .ownSl _ _ _ | exact SV.le.of_eq (by simp)) (Slots.cons rfl (by first | exact .refl _ | exact .nilOwn _ _ | exact .nilSl _ | exact .ownSl _ _ _ | exact SV.le.of_eq (by simp)) (Slots.cons rfl (by first | exact .refl _ | exact .nilOwn _ _ | exact .nilSl _ | exact .ownSl _ _ _ | exact SV.le.of_eq (by simp)) (Slots.cons rfl (by first | exact .refl _ | exact .nilOwn _ _ | exact .nilSl _ | exact .ownSl _ _ _ | exact SV.le.of_eq (by simp)) (Slots.cons rfl (by first | exact .refl _ | exact .nilOwn _ _ | exact .nilSl _ | exact .ownSl _ _ _ | exact SV.le.of_eq (by simp)) (Slots.cons rfl (by first | exact .refl _ | exact .nilOwn _ _ | exact .nilSl _ | exact .ownSl _ _ _ | exact SV.le.of_eq (by simp)) (Slots.cons rfl (by first | exact .refl _ | exact .nilOwn _ _ | exact .nilSl _ | exact .ownSl _ _ _ | exact SV.le.of_eq (by simp)) (Slots.cons rfl (by first | exact .refl _ | exact .nilOwn _ _ | exact .nilSl _ | exact .ownSl _ _ _ | exact SV.le.of_eq (by simp)) (Slots.cons rfl (by first | exact .refl _ | exact .nilOwn _ _ | exact .nilSl _ | exact .ownSl _ _ _ | exact SV.le.of_eq (by simp)) (Slots.cons rfl (by first | exact .refl _ | exact .nilOwn _ _ | exact .nilSl _ | exact .ownSl _ _ _ | exact SV.le.of_eq (by simp)) (Slots.cons rfl (by first | exact .refl _ | exact .nilOwn _ _ | exact .nilSl _ | exact .ownSl _ _ _ | exact SV.le.of_eq (by simp)) (Slots.cons rfl (by first | exact .refl _ | exact .nilOwn _ _ | exact .nilSl _ | exact .ownSl _ _ _ | exact SV.le.of_eq (by simp)) Slots.nil)))))))))))), (by first | exact List.Sublist.refl _ | exact List.nil_sublist _ | exact .cons _ (.refl _) | exact .cons _ (.cons _ (.refl _)) | exact .cons _ (.cons _ (.cons _ (.refl _))) | exact .cons _ (.cons _ (.cons _ (.cons _ (.refl _)))) | exact .cons_cons _ (List.nil_sublist _))⟩ ⟨0, rfl, rfl, Nat.zero_le _⟩ ?_
              rintro nn0 _ ⟨j, rfl, rfl, hj⟩
              refine awp_seq ?_
              refine awp_region ?_
              refine r_cmp rfl rfl rfl rfl ?_
              refine awl_nil ?_
              refine x_then ?_
              refine awp_seq ?_
              refine awp_cond rfl (fun hc6 => ?_) (fun hc6 => ?_)
              ·
                have hltj : j < vs.length := by have := of_decide_eq_true hc6; simpa using this
                obtain ⟨y, hy⟩ := get_lt hltj
                refine awp_skip ?_
                refine x_then ?_
                refine awp_seq ?_
                refine awp_block ?_
                refine awp_seq ?_
                refine awp_region ?_
                refine r_index rfl rfl rfl T.sl63 T.sz69 (by omega) (get_map hy) rfl ?_
                first | (refine r_loadA rfl T.agg69 T.sz69 rfl rfl ?_) | (refine r_loadAb 0 rfl rfl T.agg69 T.sz69 rfl rfl ?_)
                refine r_alloc T.zero69 rfl (fun b14 => ?_)
                first | (refine r_store 0 rfl rfl rfl T.sz69 rfl rfl rfl ?_) | (refine r_store 1 rfl rfl rfl T.sz69 rfl rfl rfl ?_)
                refine awl_nil ?_
                refine x_then ?_
                refine awp_seq ?_
                refine awp_region ?_
                refine r_move rfl rfl ?_
                refine r_move rfl rfl ?_
                refine g_cases (t' := 91) rfl (fun hg91 => ?_) (fun hg91 => ?_)
                ·
                  obtain ⟨v, hv⟩ := Option.isSome_iff_exists.1 hg91
                  obtain ⟨hv1, hv2⟩ := hpc.has v hv
                  refine g_run rfl rfl hg91 ?_
                  first | (refine r_fieldcp rfl T.f69_0 T.sz30 rfl ?_) | (refine r_fieldb rfl T.f69_0 T.sz30 rfl ?_)
                  refine g_run rfl rfl hg91 ?_
                  first | (refine r_load1 rfl T.agg30 rfl ?_) | (refine r_load1b 0 rfl rfl rfl T.agg30 rfl ?_) | (refine r_load1b 1 rfl rfl rfl T.agg30 rfl ?_)
                  refine g_run rfl rfl hg91 ?_
                  refine r_move rfl rfl ?_
                  refine g_run rfl rfl hg91 ?_
                  refine r_cmp rfl rfl rfl rfl ?_
                  refine r_pickT rfl hg91 rfl rfl ?_
                  refine r_move rfl rfl ?_
                  refine g_cases (t' := 97) rfl (fun hg97 => ?_) (fun hg97 => ?_)
                  ·
                    have hyv : y = v := rise_one hpc.rise (List.mem_of_getElem? hy) (lastG_mem hv) (by have := eq_of_beq hg97; rw [hv] at this; exact this)
                    subst hyv
                    refine g_run rfl rfl hg97 ?_
                    first | (refine r_fieldcp rfl T.f69_2 T.sz31 rfl ?_) | (refine r_fieldb rfl T.f69_2 T.sz31 rfl ?_)
                    refine g_run rfl rfl hg97 ?_
                    first | (refine r_load1 rfl T.agg31 rfl ?_) | (refine r_load1b 0 rfl rfl rfl T.agg31 rfl ?_) | (refine r_load1b 1 rfl rfl rfl T.agg31 rfl ?_)
                    refine g_run rfl rfl hg97 ?_
                    refine r_convBS y.data rfl rfl T.sl31 T.un5 T.un9 rfl ?_
                    refine g_run rfl rfl hg97 ?_
                    first | (refine r_fieldcp rfl T.f33_3 T.sz31 rfl ?_) | (refine r_fieldb rfl T.f33_3 T.sz31 rfl ?_)
                    refine g_run rfl rfl hg97 ?_
                    first | (refine r_load1 rfl T.agg31 rfl ?_) | (refine r_load1b 0 rfl rfl rfl T.agg31 rfl ?_) | (refine r_load1b 1 rfl rfl rfl T.agg31 rfl ?_)
                    refine g_run rfl rfl hg97 ?_
                    refine r_convBS c.data rfl rfl T.sl31 T.un5 T.un9 rfl ?_
                    refine g_run rfl rfl hg97 ?_
                    refine r_str2 rfl rfl rfl rfl ?_
                    refine r_pickT rfl hg97 rfl rfl ?_
                    refine awl_nil ?_
                    refine x_then ?_
                    refine awp_cond rfl (fun hc7 => ?_) (fun hc7 => ?_)
                    ·
                      exfalso; rw [hv2] at hc7; simp at hc7
                    ·
                      refine awp_skip ?_
                      refine x_block ?_
                      refine x_then ?_
                      refine awp_region ?_
                      refine r_ari _ rfl rfl rfl (wrap_id (by omega)) rfl ?_
                      refine r_move rfl rfl ?_
                      refine awl_nil ?_
                      refine x_then ?_
                      refine ⟨vs.length - (j + 1), ⟨108, [(0, .a (momentsA l)), (1, .a (numsA nums)), (5, .a (.cp [u8A not])), (53, .a (choicesA cs)), (54, .a (.v (.int .i64 ((cs.map Choice.cs).length)))), (55, .a (.v (.int .i64 ((k : Int))))), (9, .a (.v (.pointer (some ⟨b9, 0, none⟩)))), (11, .a (.v (.int .u64 (((lastG not vs).map (·.frm)).getD 0)))), (12, .a (boolA (lastG not vs).isSome)), (84, .a (versA vs)), (85, .a (.v (.int .i64 ((vs.map Ver.cs).length)))), (86, .a (.v (.int .i64 (((j + 1) : Int)))))], [⟨b9, true, .box (Choice.cs c)⟩]⟩, ⟨rfl, (Slots.cons rfl (by first | exact .refl _ | exact .nilOwn _ _ | exact .nilSl _ | exact .ownSl _ _ _ | exact SV.le.of_eq (by simp)) (Slots.cons rfl (by first | exact .refl _ | exact .nilOwn _ _ | exact .nilSl _ | exact .ownSl _ _ _ | exact SV.le.of_eq (by simp)) (Slots.cons rfl (by first | exact .refl _ | exact .nilOwn _ _ | exact .nilSl _ | exact .ownSl _ _ _ | exact SV.le.of_eq (by simp)) (Slots.cons rfl (by first | exact .refl _ | exact .nilOwn _ _ | exact .nilSl _ | exact .ownSl _ _ _ | exact SV.le.of_eq (by simp)) (Slots.cons rfl (by first | exact .refl _ | exact .nilOwn _ _ | exact .nilSl _ | exact .ownSl _ _ _ | exact SV.le.of_eq (by simp)) (Slots.cons rfl (by first | exact .refl _ | exact .nilOwn _ _ | exact .nilSl _ | exact .ownSl _ _ _ | exact SV.le.of_eq (by simp)) (Slots.cons rfl (by first | exact .refl _ | exact .nilOwn _ _ | exact .nilSl _ | exact .ownSl _ _ _ | exact SV.le.of_eq (by simp)) (Slots.cons rfl (by first | exact .refl _ | exact .nilOwn _ _ | exact .nilSl _ | exact .ownSl _ _ _ | exact SV.le.of_eq (by simp)) (Slots.cons rfl (by first | exact .refl _ | exact .nilOwn _ _ | exact .nilSl _ | exact .ownSl _ _ _ | exact SV.le.of_eq (by simp)) (Slots.cons rfl (by first | exact .refl _ | exact .nilOwn _ _ | exact .nilSl _ | exact .ownSl _ _ _ | exact SV.le.of_eq (by simp)) (Slots.cons rfl (by first | exact .refl _ | exact .nilOwn _ _ | exact .nilSl _ | exact .ownSl _ _ _ | exact SV.le.of_eq (by simp)) (Slots.cons rfl (by first | exact .refl _ | exact .nilOwn _ _ | exact .nilSl _ | exact .ownSl _ _ _ | exact SV.le.of_eq (by simp)) Slots.nil)))))))))))), (by first | exact List.Sublist.refl _ | exact List.nil_sublist _ | exact .cons _ (.refl _) | exact .cons _ (.cons _ (.refl _)) | exact .cons _ (.cons _ (.cons _ (.refl _))) | exact .cons _ (.cons _ (.cons _ (.cons _ (.refl _)))) | exact .cons_cons _ (List.nil_sublist _))⟩, (by omega), ⟨j + 1, rfl, rfl, (by have := (List.getElem?_eq_some_iff.1 hy).1; omega)⟩⟩
                  ·
                    refine g_skip rfl rfl hg97 rfl ?_
                    refine g_skip rfl rfl hg97 rfl ?_
                    refine g_skip rfl rfl hg97 rfl ?_
                    refine g_skip rfl rfl hg97 rfl ?_
                    refine g_skip rfl rfl hg97 rfl ?_
                    refine g_skip rfl rfl hg97 rfl ?_
                    refine g_skip rfl rfl hg97 rfl ?_
                    refine r_pickF rfl hg97 rfl rfl ?_
                    refine awl_nil ?_
                    refine x_then ?_
                    refine awp_condF rfl ?_
                    refine awp_skip ?_
                    refine x_block ?_
                    refine x_then ?_
                    refine awp_region ?_
                    refine r_ari _ rfl rfl rfl (wrap_id (by omega)) rfl ?_
                    refine r_move rfl rfl ?_
                    refine awl_nil ?_
                    refine x_then ?_
                    refine ⟨vs.length - (j + 1), ⟨108, [(0, .a (momentsA l)), (1, .a (numsA nums)), (5, .a (.cp [u8A not])), (53, .a (choicesA cs)), (54, .a (.v (.int .i64 ((cs.map Choice.cs).length)))), (55, .a (.v (.int .i64 ((k : Int))))), (9, .a (.v (.pointer (some ⟨b9, 0, none⟩)))), (11, .a (.v (.int .u64 (((lastG not vs).map (·.frm)).getD 0)))), (12, .a (boolA (lastG not vs).isSome)), (84, .a (versA vs)), (85, .a (.v (.int .i64 ((vs.map Ver.cs).length)))), (86, .a (.v (.int .i64 (((j + 1) : Int)))))], [⟨b9, true, .box (Choice.cs c)⟩]⟩, ⟨rfl, (Slots.cons rfl (by first | exact .refl _ | exact .nilOwn _ _ | exact .nilSl _ | exact .ownSl _ _ _ | exact SV.le.of_eq (by simp)) (Slots.cons rfl (by first | exact .refl _ | exact .nilOwn _ _ | exact .nilSl _ | exact .ownSl _ _ _ | exact SV.le.of_eq (by simp)) (Slots.cons rfl (by first | exact .refl _ | exact .nilOwn _ _ | exact .nilSl _ | exact .ownSl _ _ _ | exact SV.le.of_eq (by simp)) (Slots.cons rfl (by first | exact .refl _ | exact .nilOwn _ _ | exact .nilSl _ | exact .ownSl _ _ _ | exact SV.le.of_eq (by simp)) (Slots.cons rfl (by first | exact .refl _ | exact .nilOwn _ _ | exact .nilSl _ | exact .ownSl _ _ _ | exact SV.le.of_eq (by simp)) (Slots.cons rfl (by first | exact .refl _ | exact .nilOwn _ _ | exact .nilSl _ | exact .ownSl _ _ _ | exact SV.le.of_eq (by simp)) (Slots.cons rfl (by first | exact .refl _ | exact .nilOwn _ _ | exact .nilSl _ | exact .ownSl _ _ _ | exact SV.le.of_eq (by simp)) (Slots.cons rfl (by first | exact .refl _ | exact .nilOwn _ _ | exact .nilSl _ | exact .ownSl _ _ _ | exact SV.le.of_eq (by simp)) (Slots.cons rfl (by first | exact .refl _ | exact .nilOwn _ _ | exact .nilSl _ | exact .ownSl _ _ _ | exact SV.le.of_eq (by simp)) (Slots.cons rfl (by first | exact .refl _ | exact .nilOwn _ _ | exact .nilSl _ | exact .ownSl _ _ _ | exact SV.le.of_eq (by simp)) (Slots.cons rfl (by first | exact .refl _ | exact .nilOwn _ _ | exact .nilSl _ | exact .ownSl _ _ _ | exact SV.le.of_eq (by simp)) (Slots.cons rfl (by first | exact .refl _ | exact .nilOwn _ _ | exact .nilSl _ | exact .ownSl _ _ _ | exact SV.le.of_eq (by simp)) Slots.nil)))))))))))), (by first | exact List.Sublist.refl _ | exact List.nil_sublist _ | exact .cons _ (.refl _) | exact .cons _ (.cons _ (.refl _)) | exact .cons _ (.cons _ (.cons _ (.refl _))) | exact .cons _ (.cons _ (.cons _ (.cons _ (.refl _)))) | exact .cons_cons _ (List.nil_sublist _))⟩, (by omega), ⟨j + 1, rfl, rfl, (by have := (List.getElem?_eq_some_iff.1 hy).1; omega)⟩⟩
                ·
                  refine g_skip rfl rfl hg91 rfl ?_
                  refine g_skip rfl rfl hg91 rfl ?_
                  refine g_skip rfl rfl hg91 rfl ?_
                  refine g_skip rfl rfl hg91 rfl ?_
                  refine r_pickF rfl hg91 rfl rfl ?_
                  refine r_move rfl rfl ?_
                  refine g_skip rfl rfl rfl rfl ?_
                  refine g_skip rfl rfl rfl rfl ?_
                  refine g_skip rfl rfl rfl rfl ?_
                  refine g_skip rfl rfl rfl rfl ?_
                  refine g_skip rfl rfl rfl rfl ?_
                  refine g_skip rfl rfl rfl rfl ?_
                  refine g_skip rfl rfl rfl rfl ?_
                  refine r_pickF rfl rfl rfl rfl ?_
                  refine awl_nil ?_
                  refine x_then ?_
                  refine awp_condF rfl ?_
                  refine awp_skip ?_
                  refine x_block ?_
                  refine x_then ?_
                  refine awp_region ?_
                  refine r_ari _ rfl rfl rfl (wrap_id (by omega)) rfl ?_
                  refine r_move rfl rfl ?_
                  refine awl_nil ?_
                  refine x_then ?_
                  refine ⟨vs.length - (j + 1), ⟨108, [(0, .a (momentsA l)), (1, .a (numsA nums)), (5, .a (.cp [u8A not])), (53, .a (choicesA cs)), (54, .a (.v (.int .i64 ((cs.map Choice.cs).length)))), (55, .a (.v (.int .i64 ((k : Int))))), (9, .a (.v (.pointer (some ⟨b9, 0, none⟩)))), (11, .a (.v (.int .u64 (((lastG not vs).map (·.frm)).getD 0)))), (12, .a (boolA (lastG not vs).isSome)), (84, .a (versA vs)), (85, .a (.v (.int .i64 ((vs.map Ver.cs).length)))), (86, .a (.v (.int .i64 (((j + 1) : Int)))))], [⟨b9, true, .box (Choice.cs c)⟩]⟩, ⟨rfl, (Slots.cons rfl (by first | exact .refl _ | exact .nilOwn _ _ | exact .nilSl _ | exact .ownSl _ _ _ | exact SV.le.of_eq (by simp)) (Slots.cons rfl (by first | exact .refl _ | exact .nilOwn _ _ | exact .nilSl _ | exact .ownSl _ _ _ | exact SV.le.of_eq (by simp)) (Slots.cons rfl (by first | exact .refl _ | exact .nilOwn _ _ | exact .nilSl _ | exact .ownSl _ _ _ | exact SV.le.of_eq (by simp)) (Slots.cons rfl (by first | exact .refl _ | exact .nilOwn _ _ | exact .nilSl _ | exact .ownSl _ _ _ | exact SV.le.of_eq (by simp)) (Slots.cons rfl (by first | exact .refl _ | exact .nilOwn _ _ | exact .nilSl _ | exact .ownSl _ _ _ | exact SV.le.of_eq (by simp)) (Slots.cons rfl (by first | exact .refl _ | exact .nilOwn _ _ | exact .nilSl _ | exact .ownSl _ _ _ | exact SV.le.of_eq (by simp)) (Slots.cons rfl (by first | exact .refl _ | exact .nilOwn _ _ | exact .nilSl _ | exact .ownSl _ _ _ | exact SV.le.of_eq (by simp)) (Slots.cons rfl (by first | exact .refl _ | exact .nilOwn _ _ | exact .nilSl _ | exact .ownSl _ _ _ | exact SV.le.of_eq (by simp)) (Slots.cons rfl (by first | exact .refl _ | exact .nilOwn _ _ | exact .nilSl _ | exact .ownSl _ _ _ | exact SV.le.of_eq (by simp)) (Slots.cons rfl (by first | exact .refl _ | exact .nilOwn _ _ | exact .nilSl _ | exact .ownSl _ _ _ | exact SV.le.of_eq (by simp)) (Slots.cons rfl (by first | exact .refl _ | exact .nilOwn _ _ | exact .nilSl _ | exact .ownSl _ _ _ | exact SV.le.of_eq (by simp)) (Slots.cons rfl (by first | exact .refl _ | exact .nilOwn _ _ | exact .nilSl _ | exact .ownSl _ _ _ | exact SV.le.of_eq (by simp)) Slots.nil)))))))))))), (by first | exact List.Sublist.refl _ | exact List.nil_sublist _ | exact .cons _ (.refl _) | exact .cons _ (.cons _ (.refl _)) | exact .cons _ (.cons _ (.cons _ (.refl _))) | exact .cons _ (.cons _ (.cons _ (.cons _ (.refl _)))) | exact .cons_cons _ (List.nil_sublist _))⟩, (by omega), ⟨j + 1, rfl, rfl, (by have := (List.getElem?_eq_some_iff.1 hy).1; omega)⟩⟩
              ·
                refine awp_exit ?_
                refine x_thenE ?_
                refine x_thenE ?_
                refine x_blockE ?_
                refine x_block ?_
                refine x_then ?_
                refine awp_region ?_
                refine r_ari _ rfl rfl rfl (wrap_id (by omega)) rfl ?_
                refine r_move rfl rfl ?_
                refine awl_nil ?_
                refine x_then ?_
                refine ⟨cs.length - (k + 1), ⟨108, [(0, .a (momentsA l)), (1, .a (numsA nums)), (5, .a (.cp [u8A not])), (53, .a (choicesA cs)), (54, .a (.v (.int .i64 ((cs.map Choice.cs).length)))), (55, .a (.v (.int .i64 (((k + 1) : Int)))))], []⟩, ⟨rfl, (Slots.cons rfl (by first | exact .refl _ | exact .nilOwn _ _ | exact .nilSl _ | exact .ownSl _ _ _ | exact SV.le.of_eq (by simp)) (Slots.cons rfl (by first | exact .refl _ | exact .nilOwn _ _ | exact .nilSl _ | exact .ownSl _ _ _ | exact SV.le.of_eq (by simp)) (Slots.cons rfl (by first | exact .refl _ | exact .nilOwn _ _ | exact .nilSl _ | exact .ownSl _ _ _ | exact SV.le.of_eq (by simp)) (Slots.cons rfl (by first | exact .refl _ | exact .nilOwn _ _ | exact .nilSl _ | exact .ownSl _ _ _ | exact SV.le.of_eq (by simp)) (Slots.cons rfl (by first | exact .refl _ | exact .nilOwn _ _ | exact .nilSl _ | exact .ownSl _ _ _ | exact SV.le.of_eq (by simp)) (Slots.cons rfl (by first | exact .refl _ | exact .nilOwn _ _ | exact .nilSl _ | exact .ownSl _ _ _ | exact SV.le.of_eq (by simp)) Slots.nil)))))), (by first | exact List.Sublist.refl _ | exact List.nil_sublist _ | exact .cons _ (.refl _) | exact .cons _ (.cons _ (.refl _)) | exact .cons _ (.cons _ (.cons _ (.refl _))) | exact .cons _ (.cons _ (.cons _ (.cons _ (.refl _)))) | exact .cons_cons _ (List.nil_sublist _))⟩, (by omega), ⟨k + 1, rfl, rfl, (by have := (List.getElem?_eq_some_iff.1 hcx).1; omega)⟩⟩
          ·
            refine g_skip rfl rfl hg77 rfl ?_
            refine g_skip rfl rfl hg77 rfl ?_
            refine g_skip rfl rfl hg77 rfl ?_
            refine g_skip rfl rfl hg77 rfl ?_
            refine g_run rfl rfl (by rw [hpc.ok]; simp) ?_
            refine r_pickF rfl hg77 rfl rfl ?_
            refine r_pickF rfl (by rw [hpc.ok]; simp) rfl rfl ?_
            refine awl_nil ?_
            refine x_then ?_
            refine awp_cond rfl (fun hc5 => ?_) (fun hc5 => ?_)
            ·
              exfalso; first | exact absurd hc5 (by decide) | (rw [hv] at hc5; have := of_decide_eq_true hc5; simp at this; omega)
            ·
              refine awp_skip ?_
              refine x_then ?_
              refine awp_seq ?_
              refine awp_region ?_
              refine r_move rfl rfl ?_
              first | (refine r_lenS rfl rfl T.sl63 rfl ?_) | (refine r_lenNil rfl T.sl63 rfl ?_)
              refine r_move rfl rfl ?_
              refine awl_nil ?_
              refine x_then ?_
              refine awp_block ?_
              refine awp_loop (fun nn0 S => ∃ j : Nat, S = ⟨108, [(0, .a (momentsA l)), (1, .a (numsA nums)), (5, .a (.cp [u8A not])), (53, .a (choicesA cs)), (54, .a (.v (.int .i64 ((cs.map Choice.cs).length)))), (55, .a (.v (.int .i64 ((k : Int))))), (9, .a (.v (.pointer (some ⟨b9, 0, none⟩)))), (11, .a (.v (.int .u64 (((lastG not vs).map (·.frm)).getD 0)))), (12, .a (boolA (lastG not vs).isSome)), (84, .a (versA vs)), (85, .a (.v (.int .i64 ((vs.map Ver.cs).length)))), (86, .a (.v (.int .i64 ((j : Int)))))], [⟨b9, true, .box (Choice.cs c)⟩]⟩ ∧ nn0 = vs.length - j ∧ (j ≤ vs.length)) (vs.length - (0)) ⟨108, [(0, .a (momentsA l)), (1, .a (numsA nums)), (5, .a (.cp [u8A not])), (53, .a (choicesA cs)), (54, .a (.v (.int .i64 ((cs.map Choice.cs).length)))), (55, .a (.v (.int .i64 ((k : Int))))), (9, .a (.v (.pointer (some ⟨b9, 0, none⟩)))), (11, .a (.v (.int .u64 (((lastG not vs).map (·.frm)).getD 0)))), (12, .a (boolA (lastG not vs).isSome)), (84, .a (versA vs)), (85, .a (.v (.int .i64 ((vs.map Ver.cs).length)))), (86, .a (.v (.int .i64 (((0) : Int)))))], [⟨b9, true, .box (Choice.cs c)⟩]⟩ ⟨rfl, (Slots.cons rfl (by first | exact .refl _ | exact .nilOwn _ _ | exact .nilSl _ | exact .ownSl _ _ _ | exact SV.le.of_eq (by simp)) (Slots.cons rfl (by first | exact .refl _ | exact .nilOwn _ _ | exact .nilSl _ | exact .ownSl _ _ _ | exact SV.le.of_eq (by simp)) (Slots.cons rfl (by first | exact .refl _ | exact .nilOwn _ _ | exact .nilSl _ | exact .ownSl _ _ _ | exact SV.le.of_eq (by simp)) (Slots.cons rfl (by first | exact .refl _ | exact .nilOwn _ _ | exact .nilSl _ | exact .ownSl _ _ _ | exact SV.le.of_eq (by simp)) (Slots.cons rfl (by first | exact .refl _ | exact .nilOwn _ _ | exact .nilSl _ | exact .ownSl _ _ _ | exact SV.le.of_eq (by simp)) (Slots.cons rfl (by first | exact .refl _ | exact .nilOwn _ _ | exact .nilSl _ | exact .ownSl _ _ _ | exact SV.le.of_eq (by simp)) (Slots.cons rfl (by first | exact .refl _ | exact .nilOwn _ _ | exact .nilSl _ | exact .ownSl _ _ _ | exact SV.le.of_eq (by simp)) (Slots.cons rfl (by first | exact .refl _ | exact .nilOwn _ _ | exact .nilSl _ | exact .ownSl _ _ _ | exact SV.le.of_eq (by simp)) (Slots.cons rfl (by first | exact .refl _ | exact .nilOwn _ _ | exact .nilSl _ | exact .ownSl _ _ _ | exact SV.le.of_eq (by simp)) (Slots.cons rfl (by first | exact .refl _ | exact .nilOwn _ _ | exact .nilSl _ | exact .ownSl _ _ _ | exact SV.le.of_eq (by simp)) (Slots.cons rfl (by first | exact .refl _ | exact .nilOwn _ _ | exact .nilSl _ | exact .ownSl _ _ _ | exact SV.le.of_eq (by simp)) (Slots.cons rfl (by first | exact .refl _ | exact .nilOwn _ _ | exact .nilSl _ | exact .ownSl _ _ _ | exact SV.le.of_eq (by simp)) Slots.nil)))))))))))), (by first | exact List.Sublist.refl _ | exact List.nil_sublist _ | exact .cons _ (.refl _) | exact .cons _ (.cons _ (.refl _)) | exact .cons _ (.cons _ (.cons _ (.refl _))) | exact .cons _ (.cons _ (.cons _ (.cons _ (.refl _)))) | exact .cons_cons _ (List.nil_sublist _))⟩ ⟨0, rfl, rfl, Nat.zero_le _⟩ ?_
              rintro nn0 _ ⟨j, rfl, rfl, hj⟩
              refine awp_seq ?_
              refine awp_region ?_
              refine r_cmp rfl rfl rfl rfl ?_
              refine awl_nil ?_
              refine x_then ?_
              refine awp_seq ?_
              refine awp_cond rfl (fun hc6 => ?_) (fun hc6 => ?_)
              ·
                have hltj : j < vs.length := by have := of_decide_eq_true hc6; simpa using this
                obtain ⟨y, hy⟩ := get_lt hltj
                refine awp_skip ?_
                refine x_then ?_
                refine awp_seq ?_
                refine awp_block ?_
                refine awp_seq ?_
                refine awp_region ?_
                refine r_index rfl rfl rfl T.sl63 T.sz69 (by omega) (get_map hy) rfl ?_
                first | (refine r_loadA rfl T.agg69 T.sz69 rfl rfl ?_) | (refine r_loadAb 0 rfl rfl T.agg69 T.sz69 rfl rfl ?_)
                refine r_alloc T.zero69 rfl (fun b14 => ?_)
                first | (refine r_store 0 rfl rfl rfl T.sz69 rfl rfl rfl ?_) | (refine r_store 1 rfl rfl rfl T.sz69 rfl rfl rfl ?_)
                refine awl_nil ?_
                refine x_then ?_
                refine awp_seq ?_
                refine awp_region ?_
                refine r_move rfl rfl ?_
                refine r_move rfl rfl ?_
                refine g_cases (t' := 91) rfl (fun hg91 => ?_) (fun hg91 => ?_)
                ·
                  obtain ⟨v, hv⟩ := Option.isSome_iff_exists.1 hg91
                  obtain ⟨hv1, hv2⟩ := hpc.has v hv
                  refine g_run rfl rfl hg91 ?_
                  first | (refine r_fieldcp rfl T.f69_0 T.sz30 rfl ?_) | (refine r_fieldb rfl T.f69_0 T.sz30 rfl ?_)
                  refine g_run rfl rfl hg91 ?_
                  first | (refine r_load1 rfl T.agg30 rfl ?_) | (refine r_load1b 0 rfl rfl rfl T.agg30 rfl ?_) | (refine r_load1b 1 rfl rfl rfl T.agg30 rfl ?_)
                  refine g_run rfl rfl hg91 ?_
                  refine r_move rfl rfl ?_
                  refine g_run rfl rfl hg91 ?_
                  refine r_cmp rfl rfl rfl rfl ?_
                  refine r_pickT rfl hg91 rfl rfl ?_
                  refine r_move rfl rfl ?_
                  refine g_cases (t' := 97) rfl (fun hg97 => ?_) (fun hg97 => ?_)
                  ·
                    have hyv : y = v := rise_one hpc.rise (List.mem_of_getElem? hy) (lastG_mem hv) (by have := eq_of_beq hg97; rw [hv] at this; exact this)
                    subst hyv
                    refine g_run rfl rfl hg97 ?_
                    first | (refine r_fieldcp rfl T.f69_2 T.sz31 rfl ?_) | (refine r_fieldb rfl T.f69_2 T.sz31 rfl ?_)
                    refine g_run rfl rfl hg97 ?_
                    first | (refine r_load1 rfl T.agg31 rfl ?_) | (refine r_load1b 0 rfl rfl rfl T.agg31 rfl ?_) | (refine r_load1b 1 rfl rfl rfl T.agg31 rfl ?_)
                    refine g_run rfl rfl hg97 ?_
                    refine r_convBS y.data rfl rfl T.sl31 T.un5 T.un9 rfl ?_
                    refine g_run rfl rfl hg97 ?_
                    first | (refine r_fieldcp rfl T.f33_3 T.sz31 rfl ?_) | (refine r_fieldb rfl T.f33_3 T.sz31 rfl ?_)
                    refine g_run rfl rfl hg97 ?_
                    first | (refine r_load1 rfl T.agg31 rfl ?_) | (refine r_load1b 0 rfl rfl rfl T.agg31 rfl ?_) | (refine r_load1b 1 rfl rfl rfl T.agg31 rfl ?_)
                    refine g_run rfl rfl hg97 ?_
                    refine r_convBS c.data rfl rfl T.sl31 T.un5 T.un9 rfl ?_
                    refine g_run rfl rfl hg97 ?_
                    refine r_str2 rfl rfl rfl rfl ?_
                    refine r_pickT rfl hg97 rfl rfl ?_
                    refine awl_nil ?_
                    refine x_then ?_
                    refine awp_cond rfl (fun hc7 => ?_) (fun hc7 => ?_)
                    ·
                      exfalso; rw [hv2] at hc7; simp at hc7
                    ·
                      refine awp_skip ?_
                      refine x_block ?_
                      refine x_then ?_
                      refine awp_region ?_
                      refine r_ari _ rfl rfl rfl (wrap_id (by omega)) rfl ?_
                      refine r_move rfl rfl ?_
                      refine awl_nil ?_
                      refine x_then ?_
                      refine ⟨vs.length - (j + 1), ⟨108, [(0, .a (momentsA l)), (1, .a (numsA nums)), (5, .a (.cp [u8A not])), (53, .a (choicesA cs)), (54, .a (.v (.int .i64 ((cs.map Choice.cs).length)))), (55, .a (.v (.int .i64 ((k : Int))))), (9, .a (.v (.pointer (some ⟨b9, 0, none⟩)))), (11, .a (.v (.int .u64 (((lastG not vs).map (·.frm)).getD 0)))), (12, .a (boolA (lastG not vs).isSome)), (84, .a (versA vs)), (85, .a (.v (.int .i64 ((vs.map Ver.cs).length)))), (86, .a (.v (.int .i64 (((j + 1) : Int)))))], [⟨b9, true, .box (Choice.cs c)⟩]⟩, ⟨rfl, (Slots.cons rfl (by first | exact .refl _ | exact .nilOwn _ _ | exact .nilSl _ | exact .ownSl _ _ _ | exact SV.le.of_eq (by simp)) (Slots.cons rfl (by first | exact .refl _ | exact .nilOwn _ _ | exact .nilSl _ | exact .ownSl _ _ _ | exact SV.le.of_eq (by simp)) (Slots.cons rfl (by first | exact .refl _ | exact .nilOwn _ _ | exact .nilSl _ | exact .ownSl _ _ _ | exact SV.le.of_eq (by simp)) (Slots.cons rfl (by first | exact .refl _ | exact .nilOwn _ _ | exact .nilSl _ | exact .ownSl _ _ _ | exact SV.le.of_eq (by simp)) (Slots.cons rfl (by first | exact .refl _ | exact .nilOwn _ _ | exact .nilSl _ | exact .ownSl _ _ _ | exact SV.le.of_eq (by simp)) (Slots.cons rfl (by first | exact .refl _ | exact .nilOwn _ _ | exact .nilSl _ | exact .ownSl _ _ _ | exact SV.le.of_eq (by simp)) (Slots.cons rfl (by first | exact .refl _ | exact .nilOwn _ _ | exact .nilSl _ | exact .ownSl _ _ _ | exact SV.le.of_eq (by simp)) (Slots.cons rfl (by first | exact .refl _ | exact .nilOwn _ _ | exact .nilSl _ | exact .ownSl _ _ _ | exact SV.le.of_eq (by simp)) (Slots.cons rfl (by first | exact .refl _ | exact .nilOwn _ _ | exact .nilSl _ | exact .ownSl _ _ _ | exact SV.le.of_eq (by simp)) (Slots.cons rfl (by first | exact .refl _ | exact .nilOwn _ _ | exact .nilSl _ | exact .ownSl _ _ _ | exact SV.le.of_eq (by simp)) (Slots.cons rfl (by first | exact .refl _ | exact .nilOwn _ _ | exact .nilSl _ | exact .ownSl _ _ _ | exact SV.le.of_eq (by simp)) (Slots.cons rfl (by first | exact .refl _ | exact .nilOwn _ _ | exact .nilSl _ | exact .ownSl _ _ _ | exact SV.le.of_eq (by simp)) Slots.nil)))))))))))), (by first | exact List.Sublist.refl _ | exact List.nil_sublist _ | exact .cons _ (.refl _) | exact .cons _ (.cons _ (.refl _)) | exact .cons _ (.cons _ (.cons _ (.refl _))) | exact .cons _ (.cons _ (.cons _ (.cons _ (.refl _)))) | exact .cons_cons _ (List.nil_sublist _))⟩, (by omega), ⟨j + 1, rfl, rfl, (by have := (List.getElem?_eq_some_iff.1 hy).1; omega)⟩⟩
                  ·
                    refine g_skip rfl rfl hg97 rfl ?_
                    refine g_skip rfl rfl hg97 rfl ?_
                    refine g_skip rfl rfl hg97 rfl ?_
                    refine g_skip rfl rfl hg97 rfl ?_
                    refine g_skip rfl rfl hg97 rfl ?_
                    refine g_skip rfl rfl hg97 rfl ?_
                    refine g_skip rfl rfl hg97 rfl ?_
                    refine r_pickF rfl hg97 rfl rfl ?_
                    refine awl_nil ?_
                    refine x_then ?_
                    refine awp_condF rfl ?_
                    refine awp_skip ?_
                    refine x_block ?_
                    refine x_then ?_
                    refine awp_region ?_
                    refine r_ari _ rfl rfl rfl (wrap_id (by omega)) rfl ?_
                    refine r_move rfl rfl ?_
                    refine awl_nil ?_
                    refine x_then ?_
                    refine ⟨vs.length - (j + 1), ⟨108, [(0, .a (momentsA l)), (1, .a (numsA nums)), (5, .a (.cp [u8A not])), (53, .a (choicesA cs)), (54, .a (.v (.int .i64 ((cs.map Choice.cs).length)))), (55, .a (.v (.int .i64 ((k : Int))))), (9, .a (.v (.pointer (some ⟨b9, 0, none⟩)))), (11, .a (.v (.int .u64 (((lastG not vs).map (·.frm)).getD 0)))), (12, .a (boolA (lastG not vs).isSome)), (84, .a (versA vs)), (85, .a (.v (.int .i64 ((vs.map Ver.cs).length)))), (86, .a (.v (.int .i64 (((j + 1) : Int)))))], [⟨b9, true, .box (Choice.cs c)⟩]⟩, ⟨rfl, (Slots.cons rfl (by first | exact .refl _ | exact .nilOwn _ _ | exact .nilSl _ | exact .ownSl _ _ _ | exact SV.le.of_eq (by simp)) (Slots.cons rfl (by first | exact .refl _ | exact .nilOwn _ _ | exact .nilSl _ | exact .ownSl _ _ _ | exact SV.le.of_eq (by simp)) (Slots.cons rfl (by first | exact .refl _ | exact .nilOwn _ _ | exact .nilSl _ | exact .ownSl _ _ _ | exact SV.le.of_eq (by simp)) (Slots.cons rfl (by first | exact .refl _ | exact .nilOwn _ _ | exact .nilSl _ | exact .ownSl _ _ _ | exact SV.le.of_eq (by simp)) (Slots.cons rfl (by first | exact .refl _ | exact .nilOwn _ _ | exact .nilSl _ | exact .ownSl _ _ _ | exact SV.le.of_eq (by simp)) (Slots.cons rfl (by first | exact .refl _ | exact .nilOwn _ _ | exact .nilSl _ | exact .ownSl _ _ _ | exact SV.le.of_eq (by simp)) (Slots.cons rfl (by first | exact .refl _ | exact .nilOwn _ _ | exact .nilSl _ | exact .ownSl _ _ _ | exact SV.le.of_eq (by simp)) (Slots.cons rfl (by first | exact .refl _ | exact .nilOwn _ _ | exact .nilSl _ | exact .ownSl _ _ _ | exact SV.le.of_eq (by simp)) (Slots.cons rfl (by first | exact .refl _ | exact .nilOwn _ _ | exact .nilSl _ | exact .ownSl _ _ _ | exact SV.le.of_eq (by simp)) (Slots.cons rfl (by first | exact .refl _ | exact .nilOwn _ _ | exact .nilSl _ | exact .ownSl _ _ _ | exact SV.le.of_eq (by simp)) (Slots.cons rfl (by first | exact .refl _ | exact .nilOwn _ _ | exact .nilSl _ | exact .ownSl _ _ _ | exact SV.le.of_eq (by simp)) (Slots.cons rfl (by first | exact .refl _ | exact .nilOwn _ _ | exact .nilSl _ | exact .ownSl _ _ _ | exact SV.le.of_eq (by simp)) Slots.nil)))))))))))), (by first | exact List.Sublist.refl _ | exact List.nil_sublist _ | exact .cons _ (.refl _) | exact .cons _ (.cons _ (.refl _)) | exact .cons _ (.cons _ (.cons _ (.refl _))) | exact .cons _ (.cons _ (.cons _ (.cons _ (.refl _)))) | exact .cons_cons _ (List.nil_sublist _))⟩, (by omega), ⟨j + 1, rfl, rfl, (by have := (List.getElem?_eq_some_iff.1 hy).1; omega)⟩⟩
                ·
                  refine g_skip rfl rfl hg91 rfl ?_
                  refine g_skip rfl rfl hg91 rfl ?_
                  refine g_skip rfl rfl hg91 rfl ?_
                  refine g_skip rfl rfl hg91 rfl ?_
                  refine r_pickF rfl hg91 rfl rfl ?_
                  refine r_move rfl rfl ?_
                  refine g_skip rfl rfl rfl rfl ?_
                  refine g_skip rfl rfl rfl rfl ?_
                  refine g_skip rfl rfl rfl rfl ?_
                  refine g_skip rfl rfl rfl rfl ?_
                  refine g_skip rfl rfl rfl rfl ?_
                  refine g_skip rfl rfl rfl rfl ?_
                  refine g_skip rfl rfl rfl rfl ?_
                  refine r_pickF rfl rfl rfl rfl ?_
                  refine awl_nil ?_
                  refine x_then ?_
                  refine awp_condF rfl ?_
                  refine awp_skip ?_
                  refine x_block ?_
                  refine x_then ?_
                  refine awp_region ?_
                  refine r_ari _ rfl rfl rfl (wrap_id (by omega)) rfl ?_
                  refine r_move rfl rfl ?_
                  refine awl_nil ?_
                  refine x_then ?_
                  refine ⟨vs.length - (j + 1), ⟨108, [(0, .a (momentsA l)), (1, .a (numsA nums)), (5, .a (.cp [u8A not])), (53, .a (choicesA cs)), (54, .a (.v (.int .i64 ((cs.map Choice.cs).length)))), (55, .a (.v (.int .i64 ((k : Int))))), (9, .a (.v (.pointer (some ⟨b9, 0, none⟩)))), (11, .a (.v (.int .u64 (((lastG not vs).map (·.frm)).getD 0)))), (12, .a (boolA (lastG not vs).isSome)), (84, .a (versA vs)), (85, .a (.v (.int .i64 ((vs.map Ver.cs).length)))), (86, .a (.v (.int .i64 (((j + 1) : Int)))))], [⟨b9, true, .box (Choice.cs c)⟩]⟩, ⟨rfl, (Slots.cons rfl (by first | exact .refl _ | exact .nilOwn _ _ | exact .nilSl _ | exact .ownSl _ _ _ | exact SV.le.of_eq (by simp)) (Slots.cons rfl (by first | exact .refl _ | exact .nilOwn _ _ | exact .nilSl _ | exact .ownSl _ _ _ | exact SV.le.of_eq (by simp)) (Slots.cons rfl (by first | exact .refl _ | exact .nilOwn _ _ | exact .nilSl _ | exact .ownSl _ _ _ | exact SV.le.of_eq (by simp)) (Slots.cons rfl (by first | exact .refl _ | exact .nilOwn _ _ | exact .nilSl _ | exact .ownSl _ _ _ | exact SV.le.of_eq (by simp)) (Slots.cons rfl (by first | exact .refl _ | exact .nilOwn _ _ | exact .nilSl _ | exact .ownSl _ _ _ | exact SV.le.of_eq (by simp)) (Slots.cons rfl (by first | exact .refl _ | exact .nilOwn _ _ | exact .nilSl _ | exact .ownSl _ _ _ | exact SV.le.of_eq (by simp)) (Slots.cons rfl (by first | exact .refl _ | exact .nilOwn _ _ | exact .nilSl _ | exact .ownSl _ _ _ | exact SV.le.of_eq (by simp)) (Slots.cons rfl (by first | exact .refl _ | exact .nilOwn _ _ | exact .nilSl _ | exact .ownSl _ _ _ | exact SV.le.of_eq (by simp)) (Slots.cons rfl (by first | exact .refl _ | exact .nilOwn _ _ | exact .nilSl _ | exact .ownSl _ _ _ | exact SV.le.of_eq (by simp)) (Slots.cons rfl (by first | exact .refl _ | exact .nilOwn _ _ | exact .nilSl _ | exact .ownSl _ _ _ | exact SV.le.of_eq (by simp)) (Slots.cons rfl (by first | exact .refl _ | exact .nilOwn _ _ | exact .nilSl _ | exact .ownSl _ _ _ | exact SV.le.of_eq (by simp)) (Slots.cons rfl (by first | exact .refl _ | exact .nilOwn _ _ | exact .nilSl _ | exact .ownSl _ _ _ | exact SV.le.of_eq (by simp)) Slots.nil)))))))))))), (by first | exact List.Sublist.refl _ | exact List.nil_sublist _ | exact .cons _ (.refl _) | exact .cons _ (.cons _ (.refl _)) | exact .cons _ (.cons _ (.cons _ (.refl _))) | exact .cons _ (.cons _ (.cons _ (.cons _ (.refl _)))) | exact .cons_cons _ (List.nil_sublist _))⟩, (by omega), ⟨j + 1, rfl, rfl, (by have := (List.getElem?_eq_some_iff.1 hy).1; omega)⟩⟩
              ·
                refine awp_exit ?_
                refine x_thenE ?_
                refine x_thenE ?_
                refine x_blockE ?_
                refine x_block ?_
                refine x_then ?_
                refine awp_region ?_
                refine r_ari _ rfl rfl rfl (wrap_id (by omega)) rfl ?_
                refine r_move rfl rfl ?_
                refine awl_nil ?_
                refine x_then ?_
                refine ⟨cs.length - (k + 1), ⟨108, [(0, .a (momentsA l)), (1, .a (numsA nums)), (5, .a (.cp [u8A not])), (53, .a (choicesA cs)), (54, .a (.v (.int .i64 ((cs.map Choice.cs).length)))), (55, .a (.v (.int .i64 (((k + 1) : Int)))))], []⟩, ⟨rfl, (Slots.cons rfl (by first | exact .refl _ | exact .nilOwn _ _ | exact .nilSl _ | exact .ownSl _ _ _ | exact SV.le.of_eq (by simp)) (Slots.cons rfl (by first | exact .refl _ | exact .nilOwn _ _ | exact .nilSl _ | exact .ownSl _ _ _ | exact SV.le.of_eq (by simp)) (Slots.cons rfl (by first | exact .refl _ | exact .nilOwn _ _ | exact .nilSl _ | exact .ownSl _ _ _ | exact SV.le.of_eq (by simp)) (Slots.cons rfl (by first | exact .refl _ | exact .nilOwn _ _ | exact .nilSl _ | exact .ownSl _ _ _ | exact SV.le.of_eq (by simp)) (Slots.cons rfl (by first | exact .refl _ | exact .nilOwn _ _ | exact .nilSl _ | exact .ownSl _ _ _ | exact SV.le.of_eq (by simp)) (Slots.cons rfl (by first | exact .refl _ | exact .nilOwn _ _ | exact .nilSl _ | exact .ownSl _ _ _ | exact SV.le.of_eq (by simp)) Slots.nil)))))), (by first | exact List.Sublist.refl _ | exact List.nil_sublist _ | exact .cons _ (.refl _) | exact .cons _ (.cons _ (.refl _)) | exact .cons _ (.cons _ (.cons _ (.refl _))) | exact .cons _ (.cons _ (.cons _ (.cons _ (.refl _)))) | exact .cons_cons _ (List.nil_sublist _))⟩, (by omega), ⟨k + 1, rfl, rfl, (by have := (List.getElem?_eq_some_iff.1 hcx).1; omega)⟩⟩
        ·
          refine awp_exit ?_
          refine x_thenE ?_
          refine x_thenE ?_
          refine x_blockE ?_
          refine x_then ?_
          refine awp_seq ?_
          refine awp_region ?_
          refine r_assign rfl rfl ?_
          refine awl_nil ?_
          refine x_then ?_
          refine awp_ret ?_
          exact ⟨(.inl rfl), _, [], (.one (by first | exact .mk rfl rfl | exact .nil rfl)), ⟨rfl, rfl⟩, (List.nil_sublist _), (by simp)⟩

end Go.Proofs.Ytpoacfbobalpkaa.A

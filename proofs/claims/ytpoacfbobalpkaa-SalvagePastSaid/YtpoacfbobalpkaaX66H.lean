/- Layer 66: SalvagePlans, walked. -/
import Derived.Test.YtpoacfbobalpkaaProg
import Derived.KernelRfl
import Derived.Test.YtpoacfbobalpkaaX66E
import Derived.Test.YtpoacfbobalpkaaX66G
import Derived.Test.YtpoacfbobalpkaaX66P
namespace Go.Proofs.Ytpoacfbobalpkaa.A
open Go Go.RowKit
set_option linter.unusedVariables false
set_option linter.unusedSimpArgs false
set_option maxRecDepth 100000

theorem T.en32 : entersT Try.prog 32 := enters_of Try.func32 (by kernel_rfl) (by kernel_rfl)
theorem T.en36 : entersT Try.prog 36 := enters_of Try.func36 (by kernel_rfl) (by kernel_rfl)
theorem T.en9 : entersT Try.prog 9 := enters_of Try.func9 (by kernel_rfl) (by kernel_rfl)
theorem T.en10 : entersT Try.prog 10 := enters_of Try.func10 (by kernel_rfl) (by kernel_rfl)
theorem T.en12 : entersT Try.prog 12 := enters_of Try.func12 (by kernel_rfl) (by kernel_rfl)
theorem T.en13 : entersT Try.prog 13 := enters_of Try.func13 (by kernel_rfl) (by kernel_rfl)
theorem T.en15 : entersT Try.prog 15 := enters_of Try.func15 (by kernel_rfl) (by kernel_rfl)
theorem T.en14 : entersT Try.prog 14 := enters_of Try.func14 (by kernel_rfl) (by kernel_rfl)

def LookOk (look : Int → Option (List File)) : Prop := ∀ m fs, look m = some fs → fs.length ≤ 10 ∧ ∀ f ∈ fs, f.name.size ≤ 40 ∧ f.data.length ≤ 301
theorem Small.look {l : List Moment} {nums : List Int} (h : Small l nums) : LookOk (lookM l) := fun m fs hl => ⟨(look_len h hl).1, fun f hf => ⟨((look_len h hl).2 f hf).1, by have := ((look_len h hl).2 f hf).2; omega⟩⟩
theorem LookOk.fs {look : Int → Option (List File)} (h : LookOk look) {nums : List Int} : ∀ m ∈ nums, ∀ fs, look m = some fs → fs.length ≤ 1000000 ∧ ∀ f ∈ fs, f.data.length ≤ 1000000 :=
  fun m _ fs hl => ⟨by have := (h m fs hl).1; omega, fun f hf => by have := ((h m fs hl).2 f hf).2; omega⟩
theorem LookOk.len {look : Int → Option (List File)} (h : LookOk look) {nums : List Int} (hn : nums.length ≤ 100) (wh : ByteArray → List UInt8 → Bool) : (bestOf look wh nums).length ≤ 1000 := by
  have := best_len_aux look wh 10 (fun m fs hl => (h m fs hl).1) nums []
  unfold bestOf; simp only [List.length_nil, Nat.zero_add] at this; omega
theorem LookOk.name {look : Int → Option (List File)} (h : LookOk look) {nums : List Int} : ∀ s ∈ namesOf look nums, s.size ≤ 40 :=
  names_all (fun s => s.size ≤ 40) look (fun m fs hl f hf => ((h m fs hl).2 f hf).1) nums [] (by simp)
theorem LookOk.names {look : Int → Option (List File)} (h : LookOk look) {nums : List Int} (wh : ByteArray → List UInt8 → Bool) : ∀ s ∈ (bestOf look wh nums).map (·.1), s.size ≤ maxLen := fun s hs => by
  have := h.name s ((best_keys look wh s nums [] [] (by simp)).1 hs)
  unfold maxLen; omega
theorem plan_none {nums : List Int} {l : List Moment} {look : Int → Option (List File)} (hlk : lookM l = look) (hs : Sane l) (h : LookOk look) (hn : nums.length ≤ 100) : AC Try.prog 11 [numsA nums, .fn 32 [.cp [momentsA l]], .v .nilFunc] [] (fun r n => n = [] ∧ r = choicesA ((namesOf look nums).map fun n => ⟨n, 0, false, []⟩)) := by
  rw [← planNone]
  exact plan_nowh nums look (by omega) h.fs T.en32 (fun m _ => hlk ▸ at1_ok l m hs) (by have := h.len hn (fun _ _ => false); omega) (h.names _)
theorem plan_whole {nums : List Int} {l : List Moment} {look : Int → Option (List File)} (not : Int) (hlk : lookM l = look) (hs : Sane l) (h : LookOk look) (hn : nums.length ≤ 100) : AC Try.prog 11 [numsA nums, .fn 32 [.cp [momentsA l]], .fn 36 [.cp [u8A not]]] [] (fun r n => n = [] ∧ r = choicesA (rplanOf look not nums)) := by
  rw [← plan_eq]
  exact plan_ok nums look (fun _ d => wholeB not d) (by omega) h.fs T.en32 (fun m _ => hlk ▸ at1_ok l m hs) T.en36 (fun s d hd => whole1_ok s d not hd) (by have := h.len hn (fun _ d => wholeB not d); omega) (h.names _)
theorem rplan_len {look : Int → Option (List File)} {not : Int} {nums : List Int} : (rplanOf look not nums).length = (namesOf look nums).length := by simp [rplanOf]
theorem names_bound {l : List Moment} {nums : List Int} (h : Small l nums) : (namesOf (lookM l) nums).length ≤ 100 := by
  have := names_len h nums []
  have := h.nums
  rw [namesOf_eq]; simp at *; omega

theorem plans_law (l : List Moment) (nums : List Int) (not : Int) : AC Try.prog 3 [momentsA l, numsA nums, u8A not] [] (fun r n => n = [] ∧ r = boolA true) := by
  refine ac_of_awp (rs := [6]) (nt := 69) Try.func3 rfl rfl rfl rfl (fun w0 C0 => ?_)
  refine awp_seq ?_
  refine awp_region ?_
  refine r_assign rfl rfl ?_
  refine awl_nil ?_
  refine x_then ?_
  refine awp_seq ?_
  refine awp_seq ?_
  refine awp_region ?_
  refine r_call0 rfl rfl .nil (awake_ok) rfl T.en9 rfl (fun r hr => ?_)
  obtain rfl := hr
  refine r_not rfl rfl ?_
  refine awl_nil ?_
  refine x_then ?_
  refine awp_cond rfl (fun hc0 => ?_) (fun hc0 => ?_)
  ·
    exfalso; exact absurd hc0 (by decide)
  ·
    refine awp_skip ?_
    refine x_then ?_
    refine awp_seq ?_
    refine awp_seq ?_
    refine awp_region ?_
    refine r_move rfl rfl ?_
    refine r_move rfl rfl ?_
    refine r_call0 rfl rfl (.cons (.ev rfl rfl) (.cons (.ev rfl rfl) .nil)) (small_ok l nums) rfl T.en10 rfl (fun r hr => ?_)
    rcases hr with rfl | ⟨rfl, h⟩
    
    ·
      refine r_cmp rfl rfl rfl rfl ?_
      refine awl_nil ?_
      refine x_then ?_
      refine awp_condT rfl ?_
      refine awp_seq ?_
      refine awp_region ?_
      refine r_assign rfl rfl ?_
      refine awl_nil ?_
      refine x_then ?_
      refine awp_ret ?_
      refine x_thenR ?_
      exact ⟨(.inl rfl), _, [], (.one (by first | exact .mk rfl rfl | exact .nil rfl)), ⟨rfl, rfl⟩, (List.nil_sublist _), (by simp)⟩
    ·
      have hn10 := h.nums
      have hnb := names_bound h
      refine r_cmp rfl rfl rfl rfl ?_
      refine awl_nil ?_
      refine x_then ?_
      refine awp_condF rfl ?_
      refine awp_skip ?_
      refine x_then ?_
      refine awp_seq ?_
      refine awp_region ?_
      refine r_move rfl rfl ?_
      refine r_move rfl rfl ?_
      refine r_call0 rfl rfl (.cons (.ev rfl rfl) .nil) (atf_ok l) rfl T.en12 rfl (fun r hr => ?_)
      obtain rfl := hr
      refine r_call0 rfl rfl (.cons (.ev rfl rfl) (.cons (.ev rfl rfl) (.cons (.ev rfl rfl) .nil))) (plan_none rfl h.sane h.look (by omega)) rfl T.en11 rfl (fun r hr => ?_)
      obtain rfl := hr
      generalize hns : namesOf (lookM l) nums = ns at hnb ⊢
      refine r_assign rfl rfl ?_
      refine awl_nil ?_
      refine x_then ?_
      refine awp_seq ?_
      refine awp_seq ?_
      refine awp_region ?_
      refine r_move rfl rfl ?_
      first | (refine r_lenS rfl rfl T.sl26 rfl ?_) | (refine r_lenNil rfl T.sl26 rfl ?_)
      refine r_move rfl rfl ?_
      refine awl_nil ?_
      refine x_then ?_
      refine awp_block ?_
      refine awp_loop (fun nn0 S => ∃ k : Nat, S = ⟨69, [(0, .a (momentsA l)), (1, .a (numsA nums)), (2, .a (u8A not)), (7, .a (choicesA (ns.map fun n => ⟨n, 0, false, []⟩))), (21, .a (choicesA (ns.map fun n => ⟨n, 0, false, []⟩))), (22, .a (.v (.int .i64 (((ns.map fun n => (⟨n, 0, false, []⟩ : Choice)).map Choice.cs).length)))), (23, .a (.v (.int .i64 ((k : Int)))))], []⟩ ∧ nn0 = ns.length - k ∧ (k ≤ ns.length)) (ns.length - (0)) ⟨69, [(0, .a (momentsA l)), (1, .a (numsA nums)), (2, .a (u8A not)), (7, .a (choicesA (ns.map fun n => ⟨n, 0, false, []⟩))), (21, .a (choicesA (ns.map fun n => ⟨n, 0, false, []⟩))), (22, .a (.v (.int .i64 (((ns.map fun n => (⟨n, 0, false, []⟩ : Choice)).map Choice.cs).length)))), (23, .a (.v (.int .i64 (((0) : Int)))))], []⟩ ⟨rfl, (Slots.cons rfl (by first | exact .refl _ | exact .nilOwn _ _ | exact .nilSl _ | exact .ownSl _ _ _ | exact SV.le.of_eq (by simp)) (Slots.cons rfl (by first | exact .refl _ | exact .nilOwn _ _ | exact .nilSl _ | exact .ownSl _ _ _ | exact SV.le.of_eq (by simp)) (Slots.cons rfl (by first | exact .refl _ | exact .nilOwn _ _ | exact .nilSl _ | exact .ownSl _ _ _ | exact SV.le.of_eq (by simp)) (Slots.cons rfl (by first | exact .refl _ | exact .nilOwn _ _ | exact .nilSl _ | exact .ownSl _ _ _ | exact SV.le.of_eq (by simp)) (Slots.cons rfl (by first | exact .refl _ | exact .nilOwn _ _ | exact .nilSl _ | exact .ownSl _ _ _ | exact SV.le.of_eq (by simp)) (Slots.cons rfl (by first | exact .refl _ | exact .nilOwn _ _ | exact .nilSl _ | exact .ownSl _ _ _ | exact SV.le.of_eq (by simp)) (Slots.cons rfl (by first | exact .refl _ | exact .nilOwn _ _ | exact .nilSl _ | exact .ownSl _ _ _ | exact SV.le.of_eq (by simp)) Slots.nil))))))), (by first | exact List.Sublist.refl _ | exact List.nil_sublist _ | exact .cons _ (.refl _) | exact .cons _ (.cons _ (.refl _)) | exact .cons _ (.cons _ (.cons _ (.refl _))) | exact .cons _ (.cons _ (.cons _ (.cons _ (.refl _)))) | exact .cons_cons _ (List.nil_sublist _))⟩ ⟨0, rfl, rfl, Nat.zero_le _⟩ ?_
      rintro nn0 _ ⟨k, rfl, rfl, hk⟩
      refine awp_seq ?_
      refine awp_region ?_
      refine r_cmp rfl rfl rfl rfl ?_
      refine awl_nil ?_
      refine x_then ?_
      refine awp_seq ?_
      refine awp_cond rfl (fun hc2 => ?_) (fun hc2 => ?_)
      ·
        have hlt : k < ns.length := by have := of_decide_eq_true hc2; simpa using this
        obtain ⟨x, hx⟩ := get_lt hlt
        refine awp_skip ?_
        refine x_then ?_
        refine awp_seq ?_
        refine awp_block ?_
        refine awp_seq ?_
        refine awp_region ?_
        refine r_index rfl rfl rfl T.sl26 T.sz33 (by omega) (get_map (get_map hx)) rfl ?_
        refine r_loadA rfl T.agg33 T.sz33 rfl rfl ?_
        refine r_alloc T.zero33 rfl (fun b9 => ?_)
        refine r_store 0 rfl rfl rfl T.sz33 rfl rfl rfl ?_
        refine awl_nil ?_
        refine x_then ?_
        refine awp_seq ?_
        refine awp_region ?_
        first | (refine r_fieldcp rfl T.f33_2 T.sz4 rfl ?_) | (refine r_fieldb rfl T.f33_2 T.sz4 rfl ?_)
        first | (refine r_load1 rfl T.agg4 rfl ?_) | (refine r_load1b 0 rfl rfl rfl T.agg4 rfl ?_)
        refine r_move rfl rfl ?_
        refine g_run rfl rfl rfl ?_
        first | (refine r_fieldcp rfl T.f33_1 T.sz30 rfl ?_) | (refine r_fieldb rfl T.f33_1 T.sz30 rfl ?_)
        refine g_run rfl rfl rfl ?_
        first | (refine r_load1 rfl T.agg30 rfl ?_) | (refine r_load1b 0 rfl rfl rfl T.agg30 rfl ?_)
        refine g_run rfl rfl rfl ?_
        refine r_cmp rfl rfl rfl rfl ?_
        refine r_pickF rfl rfl rfl rfl ?_
        refine r_move rfl rfl ?_
        refine g_run rfl rfl rfl ?_
        first | (refine r_fieldcp rfl T.f33_3 T.sz31 rfl ?_) | (refine r_fieldb rfl T.f33_3 T.sz31 rfl ?_)
        refine g_run rfl rfl rfl ?_
        first | (refine r_load1 rfl T.agg31 rfl ?_) | (refine r_load1b 0 rfl rfl rfl T.agg31 rfl ?_)
        refine g_run rfl rfl rfl ?_
        first | (refine r_lenS rfl rfl T.sl31 rfl ?_) | (refine r_lenNil rfl T.sl31 rfl ?_)
        refine g_run rfl rfl rfl ?_
        refine r_cmp rfl rfl rfl rfl ?_
        refine r_pickF rfl rfl rfl rfl ?_
        refine awl_nil ?_
        refine x_then ?_
        refine awp_cond rfl (fun hc3 => ?_) (fun hc3 => ?_)
        ·
          exfalso; exact absurd hc3 (by simp [u8s])
        ·
          refine awp_skip ?_
          refine x_block ?_
          refine x_then ?_
          refine awp_region ?_
          refine r_ari _ rfl rfl rfl (wrap_id (by omega)) rfl ?_
          refine r_move rfl rfl ?_
          refine awl_nil ?_
          refine x_then ?_
          refine ⟨ns.length - (k + 1), ⟨69, [(0, .a (momentsA l)), (1, .a (numsA nums)), (2, .a (u8A not)), (7, .a (choicesA (ns.map fun n => ⟨n, 0, false, []⟩))), (21, .a (choicesA (ns.map fun n => ⟨n, 0, false, []⟩))), (22, .a (.v (.int .i64 (((ns.map fun n => (⟨n, 0, false, []⟩ : Choice)).map Choice.cs).length)))), (23, .a (.v (.int .i64 (((k + 1) : Int)))))], []⟩, ⟨rfl, (Slots.cons rfl (by first | exact .refl _ | exact .nilOwn _ _ | exact .nilSl _ | exact .ownSl _ _ _ | exact SV.le.of_eq (by simp)) (Slots.cons rfl (by first | exact .refl _ | exact .nilOwn _ _ | exact .nilSl _ | exact .ownSl _ _ _ | exact SV.le.of_eq (by simp)) (Slots.cons rfl (by first | exact .refl _ | exact .nilOwn _ _ | exact .nilSl _ | exact .ownSl _ _ _ | exact SV.le.of_eq (by simp)) (Slots.cons rfl (by first | exact .refl _ | exact .nilOwn _ _ | exact .nilSl _ | exact .ownSl _ _ _ | exact SV.le.of_eq (by simp)) (Slots.cons rfl (by first | exact .refl _ | exact .nilOwn _ _ | exact .nilSl _ | exact .ownSl _ _ _ | exact SV.le.of_eq (by simp)) (Slots.cons rfl (by first | exact .refl _ | exact .nilOwn _ _ | exact .nilSl _ | exact .ownSl _ _ _ | exact SV.le.of_eq (by simp)) (Slots.cons rfl (by first | exact .refl _ | exact .nilOwn _ _ | exact .nilSl _ | exact .ownSl _ _ _ | exact SV.le.of_eq (by simp)) Slots.nil))))))), (by first | exact List.Sublist.refl _ | exact List.nil_sublist _ | exact .cons _ (.refl _) | exact .cons _ (.cons _ (.refl _)) | exact .cons _ (.cons _ (.cons _ (.refl _))) | exact .cons _ (.cons _ (.cons _ (.cons _ (.refl _)))) | exact .cons_cons _ (List.nil_sublist _))⟩, (by omega), ⟨k + 1, rfl, rfl, (by have := (List.getElem?_eq_some_iff.1 hx).1; omega)⟩⟩
      ·
        have hge : ns.length ≤ k := by have := of_decide_eq_false hc2; simp at this; omega
        refine awp_exit ?_
        refine x_thenE ?_
        refine x_thenE ?_
        refine x_blockE ?_
        refine x_then ?_
        refine awp_seq ?_
        refine awp_region ?_
        refine r_move rfl rfl ?_
        refine r_move rfl rfl ?_
        refine r_move rfl rfl ?_
        refine r_call0 rfl rfl (.cons (.ev rfl rfl) (.cons (.ev rfl rfl) (.cons (.ev rfl rfl) .nil))) (rplan_ok l nums not h) rfl T.en13 rfl (fun r hr => ?_)
        obtain rfl := hr
        refine r_assign rfl rfl ?_
        refine awl_nil ?_
        refine x_then ?_
        refine awp_seq ?_
        refine awp_region ?_
        refine r_move rfl rfl ?_
        refine r_move rfl rfl ?_
        refine r_call0 rfl rfl (.cons (.ev rfl rfl) .nil) (atf_ok l) rfl T.en12 rfl (fun r hr => ?_)
        obtain rfl := hr
        refine r_move rfl rfl ?_
        refine r_call0 rfl rfl (.cons (.ev rfl rfl) .nil) (wholef_ok not) rfl T.en15 rfl (fun r hr => ?_)
        obtain rfl := hr
        refine r_call0 rfl rfl (.cons (.ev rfl rfl) (.cons (.ev rfl rfl) (.cons (.ev rfl rfl) .nil))) (plan_whole not rfl h.sane h.look (by omega)) rfl T.en11 rfl (fun r hr => ?_)
        obtain rfl := hr
        refine r_move rfl rfl ?_
        refine r_call0 rfl rfl (.cons (.ev rfl rfl) (.cons (.ev rfl rfl) .nil)) (same_ok _ (by rw [rplan_len, hns]; omega)) rfl T.en14 rfl (fun r hr => ?_)
        obtain rfl := hr
        refine r_cmp rfl rfl rfl rfl ?_
        refine r_move rfl rfl ?_
        refine g_run rfl rfl rfl ?_
        refine r_move rfl rfl ?_
        refine g_run rfl rfl rfl ?_
        first | (refine r_lenS rfl rfl T.sl26 rfl ?_) | (refine r_lenNil rfl T.sl26 rfl ?_)
        refine g_run rfl rfl rfl ?_
        refine r_move rfl rfl ?_
        refine g_run rfl rfl rfl ?_
        first | (refine r_lenS rfl rfl T.sl34 rfl ?_) | (refine r_lenNil rfl T.sl34 rfl ?_)
        refine g_run rfl rfl rfl ?_
        refine r_cmp rfl rfl rfl rfl ?_
        refine r_pickT rfl rfl rfl rfl ?_
        refine r_move rfl rfl ?_
        refine g_run rfl rfl (by simp [rplanOf, hns]) ?_
        refine r_move rfl rfl ?_
        refine g_run rfl rfl (by simp [rplanOf, hns]) ?_
        refine r_move rfl rfl ?_
        refine g_run rfl rfl (by simp [rplanOf, hns]) ?_
        refine r_call0 rfl rfl (.cons (.ev rfl rfl) .nil) (wholef_ok not) rfl T.en15 rfl (fun r hr => ?_)
        obtain rfl := hr
        refine g_run rfl rfl (by simp [rplanOf, hns]) ?_
        refine r_call0 rfl rfl (.cons (.ev rfl rfl) (.cons (.ev rfl rfl) (.cons (.ev rfl rfl) .nil))) (plan_noat nums _ (by omega)) rfl T.en11 rfl (fun r hr => ?_)
        obtain rfl := hr
        refine g_run rfl rfl (by simp [rplanOf, hns]) ?_
        first | (refine r_lenS rfl rfl T.sl26 rfl ?_) | (refine r_lenNil rfl T.sl26 rfl ?_)
        refine g_run rfl rfl (by simp [rplanOf, hns]) ?_
        refine r_cmp rfl rfl rfl rfl ?_
        refine r_pickT rfl (by simp [rplanOf, hns]) rfl rfl ?_
        refine r_assign rfl rfl ?_
        refine awl_nil ?_
        refine x_then ?_
        refine awp_ret ?_
        exact ⟨(.inl rfl), _, [], (.one (by first | exact .mk rfl rfl | exact .nil rfl)), ⟨rfl, rfl⟩, (List.nil_sublist _), (by simp)⟩

end Go.Proofs.Ytpoacfbobalpkaa.A

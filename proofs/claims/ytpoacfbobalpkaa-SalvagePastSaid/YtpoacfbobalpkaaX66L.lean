/- Layer 66: fs.Same at one list; SalvageLater, walked. -/
import Derived.Test.YtpoacfbobalpkaaProg
import Derived.KernelRfl
import Derived.Test.YtpoacfbobalpkaaX66J
import Derived.Test.YtpoacfbobalpkaaX66T
namespace Go.Proofs.Ytpoacfbobalpkaa.A
open Go Go.RowKit
set_option linter.unusedVariables false
set_option linter.unusedSimpArgs false
set_option maxRecDepth 100000

theorem T.en41 : entersT Try.prog 41 := enters_of Try.func41 (by kernel_rfl) (by kernel_rfl)
theorem T.en40 : entersT Try.prog 40 := enters_of Try.func40 (by kernel_rfl) (by kernel_rfl)
theorem T.en39 : entersT Try.prog 39 := enters_of Try.func39 (by kernel_rfl) (by kernel_rfl)
theorem T.zraw57 : zeroT Try.prog 57 = some [(.int .u64 0), (.bool false), (.slice none 0 0)] := by kernel_rfl
theorem T.by57 : bytesT Try.prog 57 = some 40 := by kernel_rfl
theorem T.zlen57 : (zeroT Try.prog 57).map (·.length) = some 3 := by kernel_rfl
theorem T.pl57 : placesT Try.prog 57 = some [(0, 1), (1, 1), (2, 1)] := by kernel_rfl
theorem T.by30 : bytesT Try.prog 30 = some 8 := by kernel_rfl
theorem T.zlen30 : (zeroT Try.prog 30).map (·.length) = some 1 := by kernel_rfl
theorem T.en23 : entersT Try.prog 23 := enters_of Try.func23 (by kernel_rfl) (by kernel_rfl)

theorem same1_ok (x : File) : AC Try.prog 40 [File.av x, File.av x] [] (fun r n => n = [] ∧ r = boolA true) := by
  refine ac_of_awp (rs := [4]) (nt := 17) Try.func40 rfl rfl rfl rfl (fun w0 C0 => ?_)
  refine awp_seq ?_
  refine awp_region ?_
  refine r_box rfl rfl rfl (fun b2 => ?_)
  refine r_box rfl rfl rfl (fun b3 => ?_)
  refine r_assign rfl rfl ?_
  refine awl_nil ?_
  refine x_then ?_
  refine awp_seq ?_
  refine awp_region ?_
  first | (refine r_fieldcp rfl T.f50_0 T.sz9 rfl ?_) | (refine r_fieldb rfl T.f50_0 T.sz9 rfl ?_)
  first | (refine r_load1 rfl T.agg9 rfl ?_) | (refine r_load1b 0 rfl rfl rfl T.agg9 rfl ?_) | (refine r_load1b 1 rfl rfl rfl T.agg9 rfl ?_)
  first | (refine r_fieldcp rfl T.f50_0 T.sz9 rfl ?_) | (refine r_fieldb rfl T.f50_0 T.sz9 rfl ?_)
  first | (refine r_load1 rfl T.agg9 rfl ?_) | (refine r_load1b 0 rfl rfl rfl T.agg9 rfl ?_) | (refine r_load1b 1 rfl rfl rfl T.agg9 rfl ?_)
  refine r_str2 rfl rfl rfl rfl ?_
  refine r_move rfl rfl ?_
  refine g_run rfl rfl (by simp) ?_
  first | (refine r_fieldcp rfl T.f50_1 T.sz31 rfl ?_) | (refine r_fieldb rfl T.f50_1 T.sz31 rfl ?_)
  refine g_run rfl rfl (by simp) ?_
  first | (refine r_load1 rfl T.agg31 rfl ?_) | (refine r_load1b 0 rfl rfl rfl T.agg31 rfl ?_) | (refine r_load1b 1 rfl rfl rfl T.agg31 rfl ?_)
  refine g_run rfl rfl (by simp) ?_
  first | (refine r_fieldcp rfl T.f50_1 T.sz31 rfl ?_) | (refine r_fieldb rfl T.f50_1 T.sz31 rfl ?_)
  refine g_run rfl rfl (by simp) ?_
  first | (refine r_load1 rfl T.agg31 rfl ?_) | (refine r_load1b 0 rfl rfl rfl T.agg31 rfl ?_) | (refine r_load1b 1 rfl rfl rfl T.agg31 rfl ?_)
  refine g_run rfl rfl (by simp) ?_
  refine r_call0 rfl rfl (.cons (.ev rfl rfl) (.cons (.ev rfl rfl) .nil)) (equal_ok x.data x.data) rfl T.en41 rfl (fun r hr => ?_)
  obtain rfl := hr
  refine r_pickT rfl (by simp) rfl rfl ?_
  refine r_assign rfl rfl ?_
  refine awl_nil ?_
  refine x_then ?_
  refine awp_ret ?_
  exact ⟨(.inl rfl), _, [], (.one (by first | exact .mk rfl rfl | exact .nil rfl)), ⟨rfl, by simp [SV.av, boolA]⟩, (List.nil_sublist _), (by simp)⟩

theorem eqfunc_ok (l : List File) (hl : l.length ≤ 1000000) : AC Try.prog 39 [files l, files l, .fn 40 []] [] (fun r n => n = [] ∧ r = boolA true) := by
  refine ac_of_awp (rs := [6]) (nt := 32) Try.func39 rfl rfl rfl rfl (fun w0 C0 => ?_)
  refine awp_seq ?_
  refine awp_region ?_
  refine r_assign rfl rfl ?_
  refine awl_nil ?_
  refine x_then ?_
  refine awp_seq ?_
  refine awp_seq ?_
  refine awp_region ?_
  refine r_move rfl rfl ?_
  first | (refine r_lenS rfl rfl T.sl41 rfl ?_) | (refine r_lenNil rfl T.sl41 rfl ?_)
  refine r_move rfl rfl ?_
  first | (refine r_lenS rfl rfl T.sl41 rfl ?_) | (refine r_lenNil rfl T.sl41 rfl ?_)
  refine r_cmp rfl rfl rfl rfl ?_
  refine awl_nil ?_
  refine x_then ?_
  refine awp_cond rfl (fun hc0 => ?_) (fun hc0 => ?_)
  ·
    exfalso; simp at hc0
  ·
    refine awp_skip ?_
    refine x_then ?_
    refine awp_seq ?_
    refine awp_seq ?_
    refine awp_region ?_
    refine r_move rfl rfl ?_
    first | (refine r_lenS rfl rfl T.sl41 rfl ?_) | (refine r_lenNil rfl T.sl41 rfl ?_)
    refine r_move rfl rfl ?_
    refine awl_nil ?_
    refine x_then ?_
    refine awp_block ?_
    refine awp_loop (fun nn0 S => ∃ k : Nat, S = ⟨32, [(1, .a (files l)), (2, .a (.fn 40 [])), (15, .a (files l)), (16, .a (.v (.int .i64 ((l.map File.cs).length)))), (17, .a (.v (.int .i64 ((k : Int)))))], []⟩ ∧ nn0 = l.length - k ∧ (k ≤ l.length)) (l.length - (0)) ⟨32, [(1, .a (files l)), (2, .a (.fn 40 [])), (15, .a (files l)), (16, .a (.v (.int .i64 ((l.map File.cs).length)))), (17, .a (.v (.int .i64 (((0) : Int)))))], []⟩ ⟨rfl, (Slots.cons rfl (by first | exact .refl _ | exact .nilOwn _ _ | exact .nilSl _ | exact .ownSl _ _ _ | exact SV.le.of_eq (by simp)) (Slots.cons rfl (by first | exact .refl _ | exact .nilOwn _ _ | exact .nilSl _ | exact .ownSl _ _ _ | exact SV.le.of_eq (by simp)) (Slots.cons rfl (by first | exact .refl _ | exact .nilOwn _ _ | exact .nilSl _ | exact .ownSl _ _ _ | exact SV.le.of_eq (by simp)) (Slots.cons rfl (by first | exact .refl _ | exact .nilOwn _ _ | exact .nilSl _ | exact .ownSl _ _ _ | exact SV.le.of_eq (by simp)) (Slots.cons rfl (by first | exact .refl _ | exact .nilOwn _ _ | exact .nilSl _ | exact .ownSl _ _ _ | exact SV.le.of_eq (by simp)) Slots.nil))))), (by first | exact List.Sublist.refl _ | exact List.nil_sublist _ | exact .cons _ (.refl _) | exact .cons _ (.cons _ (.refl _)) | exact .cons _ (.cons _ (.cons _ (.refl _))) | exact .cons _ (.cons _ (.cons _ (.cons _ (.refl _)))) | exact .cons_cons _ (List.nil_sublist _))⟩ ⟨0, rfl, rfl, Nat.zero_le _⟩ ?_
    rintro nn0 _ ⟨k, rfl, rfl, hk⟩
    refine awp_seq ?_
    refine awp_region ?_
    refine r_cmp rfl rfl rfl rfl ?_
    refine awl_nil ?_
    refine x_then ?_
    refine awp_seq ?_
    refine awp_cond rfl (fun hc1 => ?_) (fun hc1 => ?_)
    ·
      have hlt : k < l.length := by have := of_decide_eq_true hc1; simpa using this
      obtain ⟨x, hx⟩ := get_lt hlt
      refine awp_skip ?_
      refine x_then ?_
      refine awp_seq ?_
      refine awp_block ?_
      refine awp_seq ?_
      refine awp_region ?_
      refine r_move rfl rfl ?_
      refine r_index rfl rfl rfl T.sl41 T.sz50 (by omega) (get_map hx) rfl ?_
      refine r_loadA rfl T.agg50 T.sz50 rfl rfl ?_
      refine r_alloc T.zero50 rfl (fun b8 => ?_)
      refine r_assign rfl rfl ?_
      refine r_store 0 rfl rfl rfl T.sz50 rfl rfl rfl ?_
      refine awl_nil ?_
      refine x_then ?_
      refine awp_seq ?_
      refine awp_region ?_
      refine r_move rfl rfl ?_
      refine r_move rfl rfl ?_
      refine r_index rfl rfl rfl T.sl41 T.sz50 (by omega) (get_map hx) rfl ?_
      first | (refine r_loadA rfl T.agg50 T.sz50 rfl rfl ?_) | (refine r_loadAb 0 rfl rfl T.agg50 T.sz50 rfl rfl ?_)
      refine r_alloc T.zero50 rfl (fun b9 => ?_)
      first | (refine r_store 0 rfl rfl rfl T.sz50 rfl rfl rfl ?_) | (refine r_store 1 rfl rfl rfl T.sz50 rfl rfl rfl ?_)
      refine awl_nil ?_
      refine x_then ?_
      refine awp_seq ?_
      refine awp_region ?_
      refine r_move rfl rfl ?_
      first | (refine r_loadA rfl T.agg50 T.sz50 rfl rfl ?_) | (refine r_loadAb 0 rfl rfl T.agg50 T.sz50 rfl rfl ?_) | (refine r_loadAb 1 rfl rfl T.agg50 T.sz50 rfl rfl ?_)
      first | (refine r_loadA rfl T.agg50 T.sz50 rfl rfl ?_) | (refine r_loadAb 0 rfl rfl T.agg50 T.sz50 rfl rfl ?_) | (refine r_loadAb 1 rfl rfl T.agg50 T.sz50 rfl rfl ?_)
      refine r_call0 rfl rfl (.cons (.ev rfl rfl) (.cons (.ev rfl rfl) .nil)) (same1_ok x) rfl T.en40 rfl (fun r hr => ?_)
      obtain rfl := hr
      refine r_not rfl rfl ?_
      refine awl_nil ?_
      refine x_then ?_
      refine awp_cond rfl (fun hc2 => ?_) (fun hc2 => ?_)
      ·
        exfalso; cases hc2
      ·
        refine awp_skip ?_
        refine x_block ?_
        refine x_then ?_
        refine awp_region ?_
        refine r_ari _ rfl rfl rfl (wrap_id (by omega)) rfl ?_
        refine r_move rfl rfl ?_
        refine awl_nil ?_
        refine x_then ?_
        refine ⟨l.length - (k + 1), ⟨32, [(1, .a (files l)), (2, .a (.fn 40 [])), (15, .a (files l)), (16, .a (.v (.int .i64 ((l.map File.cs).length)))), (17, .a (.v (.int .i64 (((k + 1) : Int)))))], []⟩, ⟨rfl, (Slots.cons rfl (by first | exact .refl _ | exact .nilOwn _ _ | exact .nilSl _ | exact .ownSl _ _ _ | exact SV.le.of_eq (by simp)) (Slots.cons rfl (by first | exact .refl _ | exact .nilOwn _ _ | exact .nilSl _ | exact .ownSl _ _ _ | exact SV.le.of_eq (by simp)) (Slots.cons rfl (by first | exact .refl _ | exact .nilOwn _ _ | exact .nilSl _ | exact .ownSl _ _ _ | exact SV.le.of_eq (by simp)) (Slots.cons rfl (by first | exact .refl _ | exact .nilOwn _ _ | exact .nilSl _ | exact .ownSl _ _ _ | exact SV.le.of_eq (by simp)) (Slots.cons rfl (by first | exact .refl _ | exact .nilOwn _ _ | exact .nilSl _ | exact .ownSl _ _ _ | exact SV.le.of_eq (by simp)) Slots.nil))))), (by first | exact List.Sublist.refl _ | exact List.nil_sublist _ | exact .cons _ (.refl _) | exact .cons _ (.cons _ (.refl _)) | exact .cons _ (.cons _ (.cons _ (.refl _))) | exact .cons _ (.cons _ (.cons _ (.cons _ (.refl _)))) | exact .cons_cons _ (List.nil_sublist _))⟩, (by omega), ⟨k + 1, rfl, rfl, (by have := (List.getElem?_eq_some_iff.1 hx).1; omega)⟩⟩
    ·
      have hge : l.length ≤ k := by have := of_decide_eq_false hc1; simp at this; omega
      refine awp_exit ?_
      refine x_thenE ?_
      refine x_thenE ?_
      refine x_blockE ?_
      refine x_then ?_
      refine awp_seq ?_
      refine awp_region ?_
      refine r_assign rfl rfl ?_
      refine awl_nil ?_
      refine x_then ?_
      refine awp_ret ?_
      exact ⟨(.inl rfl), _, [], (.one (by first | exact .mk rfl rfl | exact .nil rfl)), ⟨rfl, rfl⟩, (List.nil_sublist _), (by simp)⟩

theorem fsame_ok (l : List File) (hl : l.length ≤ 1000000) : AC Try.prog 23 [files l, files l] [] (fun r n => n = [] ∧ r = boolA true) := by
  refine ac_of_awp (rs := [4]) (nt := 8) Try.func23 rfl rfl rfl rfl (fun w0 C0 => ?_)
  refine awp_seq ?_
  refine awp_region ?_
  refine r_assign rfl rfl ?_
  refine awl_nil ?_
  refine x_then ?_
  refine awp_seq ?_
  refine awp_region ?_
  refine r_move rfl rfl ?_
  refine r_move rfl rfl ?_
  refine r_call0 rfl rfl (.cons (.ev rfl rfl) (.cons (.ev rfl rfl) (.cons (.ev rfl rfl) .nil))) (eqfunc_ok l hl) rfl T.en39 rfl (fun r hr => ?_)
  obtain rfl := hr
  refine r_assign rfl rfl ?_
  refine awl_nil ?_
  refine x_then ?_
  refine awp_ret ?_
  exact ⟨(.inl rfl), _, [], (.one (by first | exact .mk rfl rfl | exact .nil rfl)), ⟨rfl, rfl⟩, (List.nil_sublist _), (by simp)⟩

theorem later_look {l : List Moment} {more : List File} {b : UInt8} {nums : List Int} (h : Small l nums) (hA : atM l big = none) (hm : more.length ≤ 4 ∧ ∀ f ∈ more, f.name.size ≤ 40 ∧ f.data.length ≤ 300) : LookOk (lookM (l ++ [lateM (more.map (spoil b))])) := by
  intro m fs hl
  rw [look_more hA] at hl
  split at hl
  · cases hl
    refine ⟨by simp; omega, fun f hf => ?_⟩
    obtain ⟨g, hg, rfl⟩ := List.mem_map.1 hf
    have := hm.2 g hg
    exact ⟨this.1, by simp [spoil]; omega⟩
  · exact h.look m fs hl
theorem later_sane {l : List Moment} {more : List File} {b : UInt8} {nums : List Int} (h : Small l nums) (hm : more.length ≤ 4 ∧ ∀ f ∈ more, f.name.size ≤ 40 ∧ f.data.length ≤ 300) : Sane (l ++ [lateM (more.map (spoil b))]) := by
  have hs := h.sane
  refine ⟨by have := h.len; simp; omega, fun m hmm => ?_⟩
  rcases List.mem_append.1 hmm with hmm | hmm
  · exact hs.files m hmm
  · simp at hmm; subst hmm
    refine ⟨by simp [lateM]; omega, fun f hf => ?_⟩
    obtain ⟨g, hg, rfl⟩ := List.mem_map.1 hf
    have := hm.2 g hg
    exact ⟨by simp [spoil]; omega, by simp [spoil]; omega⟩

theorem later_not {ns : List ByteArray} {x y : ByteArray} {k : Nat} {p : Prop} (h : memB x ns = true → ns[k]? = some x ∧ p) (hy : ns[k]? = some y) (hne : y ≠ x) : x ∉ ns := by
  intro hm
  have := (h (memB_iff.2 hm)).1
  rw [hy] at this
  exact hne (Option.some.inj this)

theorem later_walk (l : List Moment) (nums : List Int) (b : UInt8) (more : List File) : AC Try.prog 6 [momentsA l, numsA nums, u8A b.toNat, files more] [] (fun r n => n = [] ∧ r = boolA true) := by
  refine ac_of_awp (rs := [8]) (nt := 151) Try.func6 rfl rfl rfl rfl (fun w0 C0 => ?_)
  refine awp_seq ?_
  refine awp_region ?_
  refine r_assign rfl rfl ?_
  refine awl_nil ?_
  refine x_then ?_
  refine awp_seq ?_
  refine awp_seq ?_
  refine awp_region ?_
  refine r_call0 rfl rfl .nil (awake_ok) rfl T.en9 rfl (fun r hr => ?_)
  obtain rfl := hr
  refine r_not rfl rfl ?_
  refine awl_nil ?_
  refine x_then ?_
  refine awp_cond rfl (fun hc0 => ?_) (fun hc0 => ?_)
  ·
    exfalso; exact absurd hc0 (by decide)
  ·
    refine awp_skip ?_
    refine x_then ?_
    refine awp_seq ?_
    refine awp_seq ?_
    refine awp_region ?_
    refine r_move rfl rfl ?_
    refine r_move rfl rfl ?_
    refine r_call0 rfl rfl (.cons (.ev rfl rfl) (.cons (.ev rfl rfl) .nil)) (small_ok l nums) rfl T.en10 rfl (fun r hr => ?_)
    rcases hr with rfl | ⟨rfl, h⟩
    
    ·
      refine r_cmp rfl rfl rfl rfl ?_
      refine r_move rfl rfl ?_
      refine g_skip rfl rfl rfl rfl ?_
      refine g_skip rfl rfl rfl rfl ?_
      refine g_skip rfl rfl rfl rfl ?_
      refine r_pickT rfl rfl rfl rfl ?_
      refine r_move rfl rfl ?_
      refine g_skip rfl rfl rfl rfl ?_
      refine g_skip rfl rfl rfl rfl ?_
      refine g_skip rfl rfl rfl rfl ?_
      refine r_pickT rfl rfl rfl rfl ?_
      refine awl_nil ?_
      refine x_then ?_
      refine awp_condT rfl ?_
      refine awp_seq ?_
      refine awp_region ?_
      refine r_assign rfl rfl ?_
      refine awl_nil ?_
      refine x_then ?_
      refine awp_ret ?_
      refine x_thenR ?_
      exact ⟨(.inl rfl), _, [], (.one (by first | exact .mk rfl rfl | exact .nil rfl)), ⟨rfl, rfl⟩, (List.nil_sublist _), (by simp)⟩
    ·
      have hn10 := h.nums
      refine r_cmp rfl rfl rfl rfl ?_
      refine r_move rfl rfl ?_
      refine g_run rfl rfl rfl ?_
      refine r_move rfl rfl ?_
      refine g_run rfl rfl rfl ?_
      first | (refine r_lenS rfl rfl T.sl44 rfl ?_) | (refine r_lenNil rfl T.sl44 rfl ?_)
      refine g_run rfl rfl rfl ?_
      refine r_cmp rfl rfl rfl rfl ?_
      refine r_pickF rfl rfl rfl rfl ?_
      refine r_move rfl rfl ?_
      refine g_cases (t' := 29) rfl (fun hg29 => ?_) (fun hg29 => ?_)
      ·
        refine g_skip rfl rfl hg29 rfl ?_
        refine g_skip rfl rfl hg29 rfl ?_
        refine g_skip rfl rfl hg29 rfl ?_
        refine r_pickT rfl hg29 rfl rfl ?_
        refine awl_nil ?_
        refine x_then ?_
        refine awp_condT rfl ?_
        refine awp_seq ?_
        refine awp_region ?_
        refine r_assign rfl rfl ?_
        refine awl_nil ?_
        refine x_then ?_
        refine awp_ret ?_
        refine x_thenR ?_
        exact ⟨(.inl rfl), _, [], (.one (by first | exact .mk rfl rfl | exact .nil rfl)), ⟨rfl, rfl⟩, (List.nil_sublist _), (by simp)⟩
      ·
        have hm4 : more.length ≤ 4 := by have := of_decide_eq_false hg29; simp at this; omega
        refine g_run rfl rfl hg29 ?_
        refine r_move rfl rfl ?_
        refine g_run rfl rfl hg29 ?_
        refine r_call0 rfl rfl (.cons (.ev rfl rfl) (.cons (.ev rfl rfl) .nil)) (at_ok l 1125899906842624 (by have := h.len; omega)) rfl T.en22 rfl (fun r hr => ?_)
        obtain rfl := hr
        refine g_run rfl rfl hg29 ?_
        refine r_cmp rfl rfl rfl rfl ?_
        refine r_pickF rfl hg29 rfl rfl ?_
        refine awl_nil ?_
        refine x_then ?_
        refine awp_cond rfl (fun hc1 => ?_) (fun hc1 => ?_)
        ·
          refine awp_seq ?_
          refine awp_region ?_
          refine r_assign rfl rfl ?_
          refine awl_nil ?_
          refine x_then ?_
          refine awp_ret ?_
          refine x_thenR ?_
          exact ⟨(.inl rfl), _, [], (.one (by first | exact .mk rfl rfl | exact .nil rfl)), ⟨rfl, rfl⟩, (List.nil_sublist _), (by simp)⟩
        ·
          have hA : atM l big = none := optI_none (Int.not_le.1 (of_decide_eq_false hc1))
          refine awp_skip ?_
          refine x_then ?_
          refine awp_seq ?_
          refine awp_region ?_
          refine r_assign rfl rfl ?_
          refine awl_nil ?_
          refine x_then ?_
          refine awp_seq ?_
          refine awp_seq ?_
          refine awp_region ?_
          refine r_move rfl rfl ?_
          first | (refine r_lenS rfl rfl T.sl44 rfl ?_) | (refine r_lenNil rfl T.sl44 rfl ?_)
          refine r_move rfl rfl ?_
          refine awl_nil ?_
          refine x_then ?_
          refine awp_block ?_
          refine awp_loop (fun nn0 S => ∃ k : Nat, S = ⟨151, [(0, .a (momentsA l)), (1, .a (numsA nums)), (2, .a (u8A b.toNat)), (9, .own 9 2 (((more.take k).map (spoil b)).map File.cs)), (34, .a (files more)), (35, .a (.v (.int .i64 ((more.map File.cs).length)))), (36, .a (.v (.int .i64 ((k : Int)))))], []⟩ ∧ nn0 = more.length - k ∧ (k ≤ more.length) ∧ (∀ f ∈ more.take k, f.name.size ≤ 40 ∧ f.data.length ≤ 300)) (more.length - (0)) ⟨151, [(0, .a (momentsA l)), (1, .a (numsA nums)), (2, .a (u8A b.toNat)), (9, .own 9 2 (((more.take (0)).map (spoil b)).map File.cs)), (34, .a (files more)), (35, .a (.v (.int .i64 ((more.map File.cs).length)))), (36, .a (.v (.int .i64 (((0) : Int)))))], []⟩ ⟨rfl, (Slots.cons rfl (by first | exact .refl _ | exact .nilOwn _ _ | exact .nilSl _ | exact .ownSl _ _ _ | exact SV.le.of_eq (by simp)) (Slots.cons rfl (by first | exact .refl _ | exact .nilOwn _ _ | exact .nilSl _ | exact .ownSl _ _ _ | exact SV.le.of_eq (by simp)) (Slots.cons rfl (by first | exact .refl _ | exact .nilOwn _ _ | exact .nilSl _ | exact .ownSl _ _ _ | exact SV.le.of_eq (by simp)) (Slots.cons rfl (by first | exact .refl _ | exact .nilOwn _ _ | exact .nilSl _ | exact .ownSl _ _ _ | exact SV.le.of_eq (by simp)) (Slots.cons rfl (by first | exact .refl _ | exact .nilOwn _ _ | exact .nilSl _ | exact .ownSl _ _ _ | exact SV.le.of_eq (by simp)) (Slots.cons rfl (by first | exact .refl _ | exact .nilOwn _ _ | exact .nilSl _ | exact .ownSl _ _ _ | exact SV.le.of_eq (by simp)) (Slots.cons rfl (by first | exact .refl _ | exact .nilOwn _ _ | exact .nilSl _ | exact .ownSl _ _ _ | exact SV.le.of_eq (by simp)) Slots.nil))))))), (by first | exact List.Sublist.refl _ | exact List.nil_sublist _ | exact .cons _ (.refl _) | exact .cons _ (.cons _ (.refl _)) | exact .cons _ (.cons _ (.cons _ (.refl _))) | exact .cons _ (.cons _ (.cons _ (.cons _ (.refl _)))) | exact .cons_cons _ (List.nil_sublist _))⟩ ⟨0, rfl, rfl, Nat.zero_le _, (fun m hm => by simp at hm)⟩ ?_
          rintro nn0 _ ⟨k, rfl, rfl, hk, hd⟩
          refine awp_seq ?_
          refine awp_region ?_
          refine r_cmp rfl rfl rfl rfl ?_
          refine awl_nil ?_
          refine x_then ?_
          refine awp_seq ?_
          refine awp_cond rfl (fun hc2 => ?_) (fun hc2 => ?_)
          ·
            have hlt : k < more.length := by have := of_decide_eq_true hc2; simpa using this
            obtain ⟨x, hx⟩ := get_lt hlt
            have e : ((more.take (k + 1)).map (spoil b)).map File.cs = ((more.take k).map (spoil b)).map File.cs ++ [File.cs (spoil b x)] := by rw [map_take hx, List.map_append]; rfl
            refine awp_skip ?_
            refine x_then ?_
            refine awp_seq ?_
            refine awp_block ?_
            refine awp_seq ?_
            refine awp_region ?_
            refine r_index rfl rfl rfl T.sl44 T.sz51 (by omega) (get_map hx) rfl ?_
            refine r_loadA rfl T.agg51 T.sz51 rfl rfl ?_
            refine r_alloc T.zero51 rfl (fun b11 => ?_)
            refine r_store 0 rfl rfl rfl T.sz51 rfl rfl rfl ?_
            refine awl_nil ?_
            refine x_then ?_
            refine awp_seq ?_
            refine awp_seq ?_
            refine awp_region ?_
            first | (refine r_fieldcp rfl T.f51_0 T.sz9 rfl ?_) | (refine r_fieldb rfl T.f51_0 T.sz9 rfl ?_)
            first | (refine r_load1 rfl T.agg9 rfl ?_) | (refine r_load1b 0 rfl rfl rfl T.agg9 rfl ?_)
            refine r_lenStr rfl T.un9 rfl ?_
            refine r_cmp rfl rfl rfl rfl ?_
            refine r_move rfl rfl ?_
            refine g_cases (t' := 44) rfl (fun hg44 => ?_) (fun hg44 => ?_)
            ·
              refine g_skip rfl rfl hg44 rfl ?_
              refine g_skip rfl rfl hg44 rfl ?_
              refine g_skip rfl rfl hg44 rfl ?_
              refine g_skip rfl rfl hg44 rfl ?_
              refine r_pickT rfl hg44 rfl rfl ?_
              refine awl_nil ?_
              refine x_then ?_
              refine awp_condT rfl ?_
              refine awp_seq ?_
              refine awp_region ?_
              refine r_assign rfl rfl ?_
              refine awl_nil ?_
              refine x_then ?_
              refine awp_ret ?_
              refine x_thenR ?_
              refine x_blockR ?_
              refine x_thenR ?_
              refine x_thenR ?_
              refine x_blockR ?_
              refine x_thenR ?_
              exact ⟨(.inl rfl), _, [], (.one (by first | exact .mk rfl rfl | exact .nil rfl)), ⟨rfl, rfl⟩, (List.nil_sublist _), (by simp)⟩
            ·
              refine g_run rfl rfl hg44 ?_
              first | (refine r_fieldcp rfl T.f51_1 T.sz31 rfl ?_) | (refine r_fieldb rfl T.f51_1 T.sz31 rfl ?_)
              refine g_run rfl rfl hg44 ?_
              first | (refine r_load1 rfl T.agg31 rfl ?_) | (refine r_load1b 0 rfl rfl rfl T.agg31 rfl ?_)
              refine g_run rfl rfl hg44 ?_
              first | (refine r_lenS rfl rfl T.sl31 rfl ?_) | (refine r_lenNil rfl T.sl31 rfl ?_)
              refine g_run rfl rfl hg44 ?_
              refine r_cmp rfl rfl rfl rfl ?_
              refine r_pickF rfl hg44 rfl rfl ?_
              refine awl_nil ?_
              refine x_then ?_
              refine awp_cond rfl (fun hc3 => ?_) (fun hc3 => ?_)
              ·
                refine awp_seq ?_
                refine awp_region ?_
                refine r_assign rfl rfl ?_
                refine awl_nil ?_
                refine x_then ?_
                refine awp_ret ?_
                refine x_thenR ?_
                refine x_blockR ?_
                refine x_thenR ?_
                refine x_thenR ?_
                refine x_blockR ?_
                refine x_thenR ?_
                exact ⟨(.inl rfl), _, [], (.one (by first | exact .mk rfl rfl | exact .nil rfl)), ⟨rfl, rfl⟩, (List.nil_sublist _), (by simp)⟩
              ·
                have hx40 : x.name.size ≤ 40 := by have := of_decide_eq_false hg44; simp at this; omega
                have hx300 : x.data.length ≤ 300 := by have := of_decide_eq_false hc3; simp [u8s] at this; omega
                refine awp_skip ?_
                refine x_then ?_
                refine awp_drawS [50, 51, 52, 53, 54, 55, 56, 57, 58, 59] [_, _, _, _, _, _, _, _, _, _] [[], [], [], [], [], [], [], [54]] [(4, 54), (7, 54), (9, 59)] T.mixed rfl rfl rfl ⟨⟨⟨⟨⟨⟨⟨⟨⟨⟨trivial
                  , ⟨_, rfl, fun sl hd hr ho => by
                      refine r_move (hr 9 _ rfl rfl rfl) rfl ?_
                      exact awl_nil ⟨rfl, post_put⟩⟩⟩
                  , ⟨_, rfl, fun sl hd hr ho => by
                      first | (refine r_fieldcp (hr 11 _ rfl rfl rfl) T.f51_0 T.sz9 rfl ?_) | (refine r_fieldb (hr 11 _ rfl rfl rfl) T.f51_0 T.sz9 rfl ?_)
                      exact awl_nil ⟨rfl, post_put⟩⟩⟩
                  , ⟨_, rfl, fun sl hd hr ho => by
                      first | (refine r_load1 (hd 1 _ rfl rfl rfl) T.agg9 rfl ?_) | (refine r_load1b 0 (hd 1 _ rfl rfl rfl) rfl rfl T.agg9 rfl ?_)
                      exact awl_nil ⟨rfl, post_put⟩⟩⟩
                  , ⟨_, rfl, fun sl hd hr ho => by
                      refine r_move (hr 2 _ rfl rfl rfl) rfl ?_
                      exact awl_nil ⟨rfl, post_put⟩⟩⟩
                  , ⟨_, rfl, fun sl hd hr ho => by
                      refine r_lit 54 (parts := [(0, .tmp 53)]) rfl T.sl31 T.sz5 T.zraw5 rfl rfl (parts_cons (hd 3 _ rfl rfl rfl) parts_nil) rfl rfl rfl rfl ?_
                      exact awl_nil ⟨rfl, (post_dem (ho 54 (List.mem_of_elem_eq_true rfl)))⟩⟩⟩
                  , ⟨_, rfl, fun sl hd hr ho => by
                      first | (refine r_fieldcp (hr 11 _ rfl rfl rfl) T.f51_1 T.sz31 rfl ?_) | (refine r_fieldb (hr 11 _ rfl rfl rfl) T.f51_1 T.sz31 rfl ?_)
                      exact awl_nil ⟨rfl, post_put⟩⟩⟩
                  , ⟨_, rfl, fun sl hd hr ho => by
                      first | (refine r_load1 (hd 5 _ rfl rfl rfl) T.agg31 rfl ?_) | (refine r_load1b 0 (hd 5 _ rfl rfl rfl) rfl rfl T.agg31 rfl ?_)
                      exact awl_nil ⟨rfl, post_put⟩⟩⟩
                  , ⟨_, rfl, fun sl hd hr ho => by
                      refine r_append 54 (hd 4 _ rfl rfl rfl) (by first | exact .own _ | exact .nil) (hd 6 _ rfl rfl rfl) (by first | exact .sl _ | exact .own _ _ | exact .nil) T.sl31 T.sz5 (by decide) T.by5 T.zlen5 (by simp [chunks, u8s] <;> omega) (by simp [chunks, u8s] <;> omega) rfl ?_
                      exact awl_nil ⟨rfl, (post_dem (ho 54 (List.mem_of_elem_eq_true rfl)))⟩⟩⟩
                  , ⟨_, rfl, fun sl hd hr ho => by
                      refine r_build (parts := [(0, .tmp 52), (1, .tmp 57)]) rfl T.pl51 T.zero51 (parts_cons (hd 2 _ rfl rfl rfl) (parts_cons (hd 7 _ rfl rfl rfl) parts_nil)) rfl rfl ?_
                      exact awl_nil ⟨rfl, post_put⟩⟩⟩
                  , ⟨_, rfl, fun sl hd hr ho => by
                      refine r_lit 59 (parts := [(0, .tmp 58)]) rfl T.sl44 T.sz51 T.zraw51 rfl rfl (parts_cons (hd 8 _ rfl rfl rfl) parts_nil) rfl rfl rfl rfl ?_
                      exact awl_nil ⟨rfl, (post_dem (ho 59 (List.mem_of_elem_eq_true rfl)))⟩⟩⟩
                  (by rfl) ?_
                refine r_append 9 rfl (by first | exact .own _ | exact .nil) rfl (by first | exact .sl _ | exact .own _ _ | exact .nil) T.sl44 T.sz51 (by decide) T.by51 T.zlen51 (by simp [chunks] <;> omega) (by simp [chunks] <;> omega) rfl ?_
                refine r_assign rfl rfl ?_
                refine awl_nil ?_
                refine x_block ?_
                refine x_then ?_
                refine awp_region ?_
                refine r_ari _ rfl rfl rfl (wrap_id (by omega)) rfl ?_
                refine r_move rfl rfl ?_
                refine awl_nil ?_
                refine x_then ?_
                refine ⟨more.length - (k + 1), ⟨151, [(0, .a (momentsA l)), (1, .a (numsA nums)), (2, .a (u8A b.toNat)), (9, .own 9 2 (((more.take (k + 1)).map (spoil b)).map File.cs)), (34, .a (files more)), (35, .a (.v (.int .i64 ((more.map File.cs).length)))), (36, .a (.v (.int .i64 (((k + 1) : Int)))))], []⟩, ⟨rfl, (Slots.cons rfl (by first | exact .refl _ | exact .nilOwn _ _ | exact .nilSl _ | exact .ownSl _ _ _ | exact SV.le.of_eq (by rw [e] <;> rfl)) (Slots.cons rfl (by first | exact .refl _ | exact .nilOwn _ _ | exact .nilSl _ | exact .ownSl _ _ _ | exact SV.le.of_eq (by rw [e] <;> rfl)) (Slots.cons rfl (by first | exact .refl _ | exact .nilOwn _ _ | exact .nilSl _ | exact .ownSl _ _ _ | exact SV.le.of_eq (by rw [e] <;> rfl)) (Slots.cons rfl (by first | exact .refl _ | exact .nilOwn _ _ | exact .nilSl _ | exact .ownSl _ _ _ | exact SV.le.of_eq (by rw [e] <;> rfl)) (Slots.cons rfl (by first | exact .refl _ | exact .nilOwn _ _ | exact .nilSl _ | exact .ownSl _ _ _ | exact SV.le.of_eq (by rw [e] <;> rfl)) (Slots.cons rfl (by first | exact .refl _ | exact .nilOwn _ _ | exact .nilSl _ | exact .ownSl _ _ _ | exact SV.le.of_eq (by rw [e] <;> rfl)) (Slots.cons rfl (by first | exact .refl _ | exact .nilOwn _ _ | exact .nilSl _ | exact .ownSl _ _ _ | exact SV.le.of_eq (by rw [e] <;> rfl)) Slots.nil))))))), (by first | exact List.Sublist.refl _ | exact List.nil_sublist _ | exact .cons _ (.refl _) | exact .cons _ (.cons _ (.refl _)) | exact .cons _ (.cons _ (.cons _ (.refl _))) | exact .cons _ (.cons _ (.cons _ (.cons _ (.refl _)))) | exact .cons_cons _ (List.nil_sublist _))⟩, (by omega), ⟨k + 1, rfl, rfl, (by have := (List.getElem?_eq_some_iff.1 hx).1; omega), (all_takeS hx hd ⟨hx40, hx300⟩)⟩⟩
          ·
            have hge : more.length ≤ k := by have := of_decide_eq_false hc2; simp at this; omega
            replace hd := all_end hge hd
            have hkl : more.take k = more := List.take_of_length_le hge
            rw [hkl]
            have hs2 := later_sane (b := b) h ⟨hm4, hd⟩
            have hl2 := later_look (b := b) h hA ⟨hm4, hd⟩
            refine awp_exit ?_
            refine x_thenE ?_
            refine x_thenE ?_
            refine x_blockE ?_
            refine x_then ?_
            refine awp_seq ?_
            refine awp_region ?_
            refine r_move rfl rfl ?_
            refine r_move rfl rfl ?_
            refine r_call0 rfl rfl (.cons (.ev rfl rfl) .nil) (atf_ok l) rfl T.en12 rfl (fun r hr => ?_)
            obtain rfl := hr
            refine r_move rfl rfl ?_
            refine r_call0 rfl rfl (.cons (.ev rfl rfl) .nil) (wholef_ok b.toNat) rfl T.en15 rfl (fun r hr => ?_)
            obtain rfl := hr
            refine r_call0 rfl rfl (.cons (.ev rfl rfl) (.cons (.ev rfl rfl) (.cons (.ev rfl rfl) .nil))) (plan_whole b.toNat rfl h.sane h.look (by omega)) rfl T.en11 rfl (fun r hr => ?_)
            obtain rfl := hr
            refine r_assign rfl rfl ?_
            refine awl_nil ?_
            refine x_then ?_
            refine awp_seq ?_
            refine awp_region ?_
            refine r_lit 68 (parts := []) rfl T.sl22 T.sz57 T.zraw57 rfl rfl rfl rfl rfl rfl rfl ?_
            refine r_move rfl rfl ?_
            refine r_append 68 rfl (by first | exact .own _ | exact .nil) rfl (by first | exact .sl _ | exact .own _ _ | exact .nil) T.sl22 T.sz57 (by decide) T.by57 T.zlen57 (by have := h.len; simp [chunks] <;> omega) (by have := h.len; simp [chunks] <;> omega) rfl ?_
            refine r_move rfl rfl ?_
            refine r_build (parts := [(0, .const ((Go.Value.int Go.IntKind.u64 1125899906842624))), (1, .const ((Go.Value.bool true))), (2, .tmp 71)]) rfl T.pl57 T.zero57 rfl rfl rfl ?_
            refine r_lit 73 (parts := [(0, .tmp 72)]) rfl T.sl22 T.sz57 T.zraw57 rfl rfl rfl rfl rfl rfl rfl ?_
            refine r_append 68 rfl (by first | exact .own _ | exact .nil) rfl (by first | exact .sl _ | exact .own _ _ | exact .nil) T.sl22 T.sz57 (by decide) T.by57 T.zlen57 (by have := h.len; simp [chunks] <;> omega) (by have := h.len; simp [chunks] <;> omega) rfl ?_
            refine r_assign rfl rfl ?_
            refine awl_nil ?_
            refine x_then ?_
            refine awp_seq ?_
            refine awp_region ?_
            refine r_lit 75 (parts := []) rfl T.sl23 T.sz30 T.zraw30 rfl rfl rfl rfl rfl rfl rfl ?_
            refine r_move rfl rfl ?_
            refine r_append 75 rfl (by first | exact .own _ | exact .nil) rfl (by first | exact .sl _ | exact .own _ _ | exact .nil) T.sl23 T.sz30 (by decide) T.by30 T.zlen30 (by simp [chunks] <;> omega) (by simp [chunks] <;> omega) rfl ?_
            refine r_lit 78 (parts := [(0, .const ((Go.Value.int Go.IntKind.u64 1125899906842624)))]) rfl T.sl23 T.sz30 T.zraw30 rfl rfl rfl rfl rfl rfl rfl ?_
            refine r_append 75 rfl (by first | exact .own _ | exact .nil) rfl (by first | exact .sl _ | exact .own _ _ | exact .nil) T.sl23 T.sz30 (by decide) T.by30 T.zlen30 (by simp [chunks] <;> omega) (by simp [chunks] <;> omega) rfl ?_
            refine r_move rfl rfl ?_
            refine r_call0 rfl rfl (.cons (.ev rfl (by show AV.sl 3 (([] ++ l.map Moment.cs) ++ [Moment.cs (lateM (more.map (spoil b)))]) = _; simp [momentsA])) .nil) (atf_ok (l ++ [lateM (more.map (spoil b))])) rfl T.en12 rfl (fun r hr => ?_)
            obtain rfl := hr
            refine r_move rfl rfl ?_
            refine r_call0 rfl rfl (.cons (.ev rfl rfl) .nil) (wholef_ok b.toNat) rfl T.en15 rfl (fun r hr => ?_)
            obtain rfl := hr
            refine r_call0 rfl rfl (.cons (.ev rfl (by show AV.sl 1 (([] ++ nums.map (fun x => [AV.v (.int .u64 x)])) ++ [[AV.v (.int .u64 big)]]) = _; simp [numsA])) (.cons (.ev rfl rfl) (.cons (.ev rfl rfl) .nil))) (plan_whole b.toNat rfl hs2 hl2 (nums := nums ++ [big]) (by simp; omega)) rfl T.en11 rfl (fun r hr => ?_)
            obtain rfl := hr
            have hL := later_ok (more := more) (b := b) (nums := nums) hA
            have hpa : PlanOk b.toNat (rplanOf (lookM l) b.toNat nums) := plan_facts h.look b.toNat (by omega)
            have hpb : PlanOk b.toNat (rplanOf (lookM (l ++ [lateM (more.map (spoil b))])) b.toNat (nums ++ [big])) := plan_facts hl2 b.toNat (by simp; omega)
            have hff := later_files hL hpa hpb
            generalize rplanOf (lookM (l ++ [lateM (more.map (spoil b))])) b.toNat (nums ++ [big]) = ys at hL hpb hff ⊢
            generalize rplanOf (lookM l) b.toNat nums = xs at hL hpa hff ⊢
            generalize namesOf (lookM (l ++ [lateM (more.map (spoil b))])) (nums ++ [big]) = ns' at hL
            generalize namesOf (lookM l) nums = ns at hL
            generalize (fun n => nums.foldl (choiceOf (lookM l) b.toNat n) ⟨n, 0, false, []⟩) = g at hL
            obtain ⟨rfl, rfl, hsub, hlost, hname⟩ := hL
            have hcl := hpb.len
            have hal := hpa.len
            refine r_assign rfl rfl ?_
            refine awl_nil ?_
            refine x_then ?_
            refine awp_seq ?_
            refine awp_region ?_
            refine r_assign rfl rfl ?_
            refine awl_nil ?_
            refine x_then ?_
            refine awp_seq ?_
            refine awp_seq ?_
            refine awp_region ?_
            refine r_move rfl rfl ?_
            first | (refine r_lenS rfl rfl T.sl26 rfl ?_) | (refine r_lenNil rfl T.sl26 rfl ?_)
            refine r_move rfl rfl ?_
            refine awl_nil ?_
            refine x_then ?_
            refine awp_block ?_
            refine awp_loop (fun nn0 S => ∃ i : Nat, S = ⟨151, [(12, .a (choicesA (ns.map g))), (14, .a (choicesA (ns'.map g))), (15, .a (.v (.int .i64 ((((ns'.take i).filter (fun n => memB n ns)).length : Nat))))), (85, .a (choicesA (ns'.map g))), (86, .a (.v (.int .i64 (((ns'.map g).map Choice.cs).length)))), (87, .a (.v (.int .i64 ((i : Int)))))], []⟩ ∧ nn0 = ns'.length - i ∧ (i ≤ ns'.length)) (ns'.length - (0)) ⟨151, [(12, .a (choicesA (ns.map g))), (14, .a (choicesA (ns'.map g))), (15, .a (.v (.int .i64 ((((ns'.take (0)).filter (fun n => memB n ns)).length : Nat))))), (85, .a (choicesA (ns'.map g))), (86, .a (.v (.int .i64 (((ns'.map g).map Choice.cs).length)))), (87, .a (.v (.int .i64 (((0) : Int)))))], []⟩ ⟨rfl, (Slots.cons rfl (by first | exact .refl _ | exact .nilOwn _ _ | exact .nilSl _ | exact .ownSl _ _ _ | exact SV.le.of_eq (by simp)) (Slots.cons rfl (by first | exact .refl _ | exact .nilOwn _ _ | exact .nilSl _ | exact .ownSl _ _ _ | exact SV.le.of_eq (by simp)) (Slots.cons rfl (by first | exact .refl _ | exact .nilOwn _ _ | exact .nilSl _ | exact .ownSl _ _ _ | exact SV.le.of_eq (by simp)) (Slots.cons rfl (by first | exact .refl _ | exact .nilOwn _ _ | exact .nilSl _ | exact .ownSl _ _ _ | exact SV.le.of_eq (by simp)) (Slots.cons rfl (by first | exact .refl _ | exact .nilOwn _ _ | exact .nilSl _ | exact .ownSl _ _ _ | exact SV.le.of_eq (by simp)) (Slots.cons rfl (by first | exact .refl _ | exact .nilOwn _ _ | exact .nilSl _ | exact .ownSl _ _ _ | exact SV.le.of_eq (by simp)) Slots.nil)))))), (by first | exact List.Sublist.refl _ | exact List.nil_sublist _ | exact .cons _ (.refl _) | exact .cons _ (.cons _ (.refl _)) | exact .cons _ (.cons _ (.cons _ (.refl _))) | exact .cons _ (.cons _ (.cons _ (.cons _ (.refl _)))) | exact .cons_cons _ (List.nil_sublist _))⟩ ⟨0, rfl, rfl, Nat.zero_le _⟩ ?_
            rintro nn0 _ ⟨i, rfl, rfl, hi⟩
            refine awp_seq ?_
            refine awp_region ?_
            refine r_cmp rfl rfl rfl rfl ?_
            refine awl_nil ?_
            refine x_then ?_
            refine awp_seq ?_
            refine awp_cond rfl (fun hc4 => ?_) (fun hc4 => ?_)
            ·
              have hlt : i < ns'.length := by have := of_decide_eq_true hc4; simpa using this
              obtain ⟨x, hx⟩ := get_lt hlt
              have hsa := sub_at hsub hx
              have hfl : ((ns'.take i).filter (fun n => memB n ns)).length ≤ ns'.length := Nat.le_trans (List.length_filter_le _ _) (by rw [List.length_take]; omega)
              simp only [List.length_map] at hcl hal
              refine awp_skip ?_
              refine x_then ?_
              refine awp_seq ?_
              refine awp_block ?_
              refine awp_seq ?_
              refine awp_region ?_
              refine r_index rfl rfl rfl T.sl26 T.sz33 (by omega) (get_map (get_map hx)) rfl ?_
              refine r_loadA rfl T.agg33 T.sz33 rfl rfl ?_
              refine r_alloc T.zero33 rfl (fun b17 => ?_)
              refine r_store 0 rfl rfl rfl T.sz33 rfl rfl rfl ?_
              refine awl_nil ?_
              refine x_then ?_
              refine awp_seq ?_
              rcases Bool.eq_false_or_eq_true (decide ((((ns'.take i).filter (fun n => memB n ns)).length : Int) < (((ns.map g).map Choice.cs).length : Nat))) with hg95 | hg95
              ·
                have hlt2 : ((ns'.take i).filter (fun n => memB n ns)).length < ns.length := by have := of_decide_eq_true hg95; simp only [List.length_map] at this; omega
                obtain ⟨y, hy⟩ := get_lt hlt2
                refine awp_drawS [91, 92, 93, 94, 95, 96, 97, 98, 99, 100, 101, 102] [_, _, _, _, _, _, _, _, _, _, _, _] [] [] T.mixed rfl rfl rfl ⟨⟨⟨⟨⟨⟨⟨⟨⟨⟨⟨⟨trivial
                  , ⟨_, rfl, fun sl hd hr ho => by
                      refine r_move (hr 15 _ rfl rfl rfl) rfl ?_
                      exact awl_nil ⟨rfl, post_put⟩⟩⟩
                  , ⟨_, rfl, fun sl hd hr ho => by
                      refine r_move (hr 12 _ rfl rfl rfl) rfl ?_
                      exact awl_nil ⟨rfl, post_put⟩⟩⟩
                  , ⟨_, rfl, fun sl hd hr ho => by
                      first | (refine r_lenS (hd 1 _ rfl rfl rfl) rfl T.sl26 rfl ?_) | (refine r_lenNil (hd 1 _ rfl rfl rfl) T.sl26 rfl ?_)
                      exact awl_nil ⟨rfl, post_put⟩⟩⟩
                  , ⟨_, rfl, fun sl hd hr ho => by
                      refine r_cmp (hd 0 _ rfl rfl rfl) (hd 2 _ rfl rfl rfl) rfl rfl ?_
                      exact awl_nil ⟨rfl, post_put⟩⟩⟩
                  , ⟨_, rfl, fun sl hd hr ho => by
                      refine r_move (hd 3 _ rfl rfl rfl) rfl ?_
                      exact awl_nil ⟨rfl, post_put⟩⟩⟩
                  , ⟨_, rfl, fun sl hd hr ho => by
                      refine g_run rfl (hd 4 _ rfl rfl rfl) hg95 ?_
                      refine r_move (hr 12 _ rfl rfl rfl) rfl ?_
                      exact awl_nil ⟨rfl, post_put⟩⟩⟩
                  , ⟨_, rfl, fun sl hd hr ho => by
                      refine g_run rfl (hd 4 _ rfl rfl rfl) hg95 ?_
                      refine r_move (hr 15 _ rfl rfl rfl) rfl ?_
                      exact awl_nil ⟨rfl, post_put⟩⟩⟩
                  , ⟨_, rfl, fun sl hd hr ho => by
                      refine g_run rfl (hd 4 _ rfl rfl rfl) hg95 ?_
                      refine r_index (hd 5 _ rfl rfl rfl) rfl (hd 6 _ rfl rfl rfl) T.sl26 T.sz33 (by omega) (get_map (get_map hy)) rfl ?_
                      exact awl_nil ⟨rfl, post_put⟩⟩⟩
                  , ⟨_, rfl, fun sl hd hr ho => by
                      refine g_run rfl (hd 4 _ rfl rfl rfl) hg95 ?_
                      first | (refine r_fieldcp (hd 7 _ rfl rfl rfl) T.f33_0 T.sz9 rfl ?_) | (refine r_fieldb (hd 7 _ rfl rfl rfl) T.f33_0 T.sz9 rfl ?_)
                      exact awl_nil ⟨rfl, post_put⟩⟩⟩
                  , ⟨_, rfl, fun sl hd hr ho => by
                      refine g_run rfl (hd 4 _ rfl rfl rfl) hg95 ?_
                      first | (refine r_load1 (hd 8 _ rfl rfl rfl) T.agg9 rfl ?_) | (refine r_load1b 0 (hd 8 _ rfl rfl rfl) rfl rfl T.agg9 rfl ?_)
                      exact awl_nil ⟨rfl, post_put⟩⟩⟩
                  , ⟨_, rfl, fun sl hd hr ho => by
                      refine g_run rfl (hd 4 _ rfl rfl rfl) hg95 ?_
                      first | (refine r_fieldcp (hr 17 _ rfl rfl rfl) T.f33_0 T.sz9 rfl ?_) | (refine r_fieldb (hr 17 _ rfl rfl rfl) T.f33_0 T.sz9 rfl ?_)
                      exact awl_nil ⟨rfl, post_put⟩⟩⟩
                  , ⟨_, rfl, fun sl hd hr ho => by
                      refine g_run rfl (hd 4 _ rfl rfl rfl) hg95 ?_
                      first | (refine r_load1 (hd 10 _ rfl rfl rfl) T.agg9 rfl ?_) | (refine r_load1b 0 (hd 10 _ rfl rfl rfl) rfl rfl T.agg9 rfl ?_)
                      exact awl_nil ⟨rfl, post_put⟩⟩⟩
                  (by rfl) ?_
                refine g_run rfl rfl hg95 ?_
                refine r_str2 rfl rfl rfl rfl ?_
                refine r_pickT rfl hg95 rfl rfl ?_
                refine awl_nil ?_
                refine x_then ?_
                refine awp_cond rfl (fun hc5 => ?_) (fun hc5 => ?_)
                ·
                  have hyx : y = x := by have := of_decide_eq_true hc5; rwa [hname, hname] at this
                  subst hyx
                  have e := (hsa.1 (memB_iff.2 (List.mem_of_getElem? hy))).2
                  refine awp_seq ?_
                  refine awp_seq ?_
                  refine awp_drawS [105, 106, 107, 108, 109, 110, 111, 112, 113, 114, 115, 116, 117, 118, 119, 120, 121, 122, 123, 124, 125, 126, 127, 128, 129, 130, 131, 132] [_, _, _, _, _, _, _, _, _, _, _, _, _, _, _, _, _, _, _, _, _, _, _, _, _, _, _, _] [] [] T.mixed rfl rfl rfl ⟨⟨⟨⟨⟨⟨⟨⟨⟨⟨⟨⟨⟨⟨⟨⟨⟨⟨⟨⟨⟨⟨⟨⟨⟨⟨⟨⟨trivial
                    , ⟨_, rfl, fun sl hd hr ho => by
                        first | (refine r_fieldcp (hr 17 _ rfl rfl rfl) T.f33_1 T.sz30 rfl ?_) | (refine r_fieldb (hr 17 _ rfl rfl rfl) T.f33_1 T.sz30 rfl ?_)
                        exact awl_nil ⟨rfl, post_put⟩⟩⟩
                    , ⟨_, rfl, fun sl hd hr ho => by
                        first | (refine r_load1 (hd 0 _ rfl rfl rfl) T.agg30 rfl ?_) | (refine r_load1b 0 (hd 0 _ rfl rfl rfl) rfl rfl T.agg30 rfl ?_)
                        exact awl_nil ⟨rfl, post_put⟩⟩⟩
                    , ⟨_, rfl, fun sl hd hr ho => by
                        refine r_move (hr 12 _ rfl rfl rfl) rfl ?_
                        exact awl_nil ⟨rfl, post_put⟩⟩⟩
                    , ⟨_, rfl, fun sl hd hr ho => by
                        refine r_move (hr 15 _ rfl rfl rfl) rfl ?_
                        exact awl_nil ⟨rfl, post_put⟩⟩⟩
                    , ⟨_, rfl, fun sl hd hr ho => by
                        refine r_index (hd 2 _ rfl rfl rfl) rfl (hd 3 _ rfl rfl rfl) T.sl26 T.sz33 (by omega) (get_map (get_map hy)) rfl ?_
                        exact awl_nil ⟨rfl, post_put⟩⟩⟩
                    , ⟨_, rfl, fun sl hd hr ho => by
                        first | (refine r_fieldcp (hd 4 _ rfl rfl rfl) T.f33_1 T.sz30 rfl ?_) | (refine r_fieldb (hd 4 _ rfl rfl rfl) T.f33_1 T.sz30 rfl ?_)
                        exact awl_nil ⟨rfl, post_put⟩⟩⟩
                    , ⟨_, rfl, fun sl hd hr ho => by
                        first | (refine r_load1 (hd 5 _ rfl rfl rfl) T.agg30 rfl ?_) | (refine r_load1b 0 (hd 5 _ rfl rfl rfl) rfl rfl T.agg30 rfl ?_)
                        exact awl_nil ⟨rfl, post_put⟩⟩⟩
                    , ⟨_, rfl, fun sl hd hr ho => by
                        refine r_cmp (hd 1 _ rfl rfl rfl) (hd 6 _ rfl rfl rfl) rfl rfl ?_
                        exact awl_nil ⟨rfl, post_put⟩⟩⟩
                    , ⟨_, rfl, fun sl hd hr ho => by
                        refine r_move (hd 7 _ rfl rfl rfl) rfl ?_
                        exact awl_nil ⟨rfl, post_put⟩⟩⟩
                    , ⟨_, rfl, fun sl hd hr ho => by
                        refine g_run rfl (hd 8 _ rfl rfl rfl) (by simp) ?_
                        first | (refine r_fieldcp (hr 17 _ rfl rfl rfl) T.f33_2 T.sz4 rfl ?_) | (refine r_fieldb (hr 17 _ rfl rfl rfl) T.f33_2 T.sz4 rfl ?_)
                        exact awl_nil ⟨rfl, post_put⟩⟩⟩
                    , ⟨_, rfl, fun sl hd hr ho => by
                        refine g_run rfl (hd 8 _ rfl rfl rfl) (by simp) ?_
                        first | (refine r_load1 (hd 9 _ rfl rfl rfl) T.agg4 rfl ?_) | (refine r_load1b 0 (hd 9 _ rfl rfl rfl) rfl rfl T.agg4 rfl ?_)
                        exact awl_nil ⟨rfl, post_put⟩⟩⟩
                    , ⟨_, rfl, fun sl hd hr ho => by
                        refine g_run rfl (hd 8 _ rfl rfl rfl) (by simp) ?_
                        refine r_move (hr 12 _ rfl rfl rfl) rfl ?_
                        exact awl_nil ⟨rfl, post_put⟩⟩⟩
                    , ⟨_, rfl, fun sl hd hr ho => by
                        refine g_run rfl (hd 8 _ rfl rfl rfl) (by simp) ?_
                        refine r_move (hr 15 _ rfl rfl rfl) rfl ?_
                        exact awl_nil ⟨rfl, post_put⟩⟩⟩
                    , ⟨_, rfl, fun sl hd hr ho => by
                        refine g_run rfl (hd 8 _ rfl rfl rfl) (by simp) ?_
                        refine r_index (hd 11 _ rfl rfl rfl) rfl (hd 12 _ rfl rfl rfl) T.sl26 T.sz33 (by omega) (get_map (get_map hy)) rfl ?_
                        exact awl_nil ⟨rfl, post_put⟩⟩⟩
                    , ⟨_, rfl, fun sl hd hr ho => by
                        refine g_run rfl (hd 8 _ rfl rfl rfl) (by simp) ?_
                        first | (refine r_fieldcp (hd 13 _ rfl rfl rfl) T.f33_2 T.sz4 rfl ?_) | (refine r_fieldb (hd 13 _ rfl rfl rfl) T.f33_2 T.sz4 rfl ?_)
                        exact awl_nil ⟨rfl, post_put⟩⟩⟩
                    , ⟨_, rfl, fun sl hd hr ho => by
                        refine g_run rfl (hd 8 _ rfl rfl rfl) (by simp) ?_
                        first | (refine r_load1 (hd 14 _ rfl rfl rfl) T.agg4 rfl ?_) | (refine r_load1b 0 (hd 14 _ rfl rfl rfl) rfl rfl T.agg4 rfl ?_)
                        exact awl_nil ⟨rfl, post_put⟩⟩⟩
                    , ⟨_, rfl, fun sl hd hr ho => by
                        refine g_run rfl (hd 8 _ rfl rfl rfl) (by simp) ?_
                        refine r_bne (hd 10 _ rfl rfl rfl) (hd 15 _ rfl rfl rfl) T.un4 rfl ?_
                        exact awl_nil ⟨rfl, post_put⟩⟩⟩
                    , ⟨_, rfl, fun sl hd hr ho => by
                        refine r_pickF (hd 8 _ rfl rfl rfl) (by simp) (hd 16 _ rfl rfl rfl) rfl ?_
                        exact awl_nil ⟨rfl, post_put⟩⟩⟩
                    , ⟨_, rfl, fun sl hd hr ho => by
                        refine r_move (hd 17 _ rfl rfl rfl) rfl ?_
                        exact awl_nil ⟨rfl, post_put⟩⟩⟩
                    , ⟨_, rfl, fun sl hd hr ho => by
                        refine g_run rfl (hd 18 _ rfl rfl rfl) (by simp) ?_
                        first | (refine r_fieldcp (hr 17 _ rfl rfl rfl) T.f33_3 T.sz31 rfl ?_) | (refine r_fieldb (hr 17 _ rfl rfl rfl) T.f33_3 T.sz31 rfl ?_)
                        exact awl_nil ⟨rfl, post_put⟩⟩⟩
                    , ⟨_, rfl, fun sl hd hr ho => by
                        refine g_run rfl (hd 18 _ rfl rfl rfl) (by simp) ?_
                        first | (refine r_load1 (hd 19 _ rfl rfl rfl) T.agg31 rfl ?_) | (refine r_load1b 0 (hd 19 _ rfl rfl rfl) rfl rfl T.agg31 rfl ?_)
                        exact awl_nil ⟨rfl, post_put⟩⟩⟩
                    , ⟨_, rfl, fun sl hd hr ho => by
                        refine g_run rfl (hd 18 _ rfl rfl rfl) (by simp) ?_
                        refine r_convBS (g y).data (hd 20 _ rfl rfl rfl) rfl T.sl31 T.un5 T.un9 rfl ?_
                        exact awl_nil ⟨rfl, post_put⟩⟩⟩
                    , ⟨_, rfl, fun sl hd hr ho => by
                        refine g_run rfl (hd 18 _ rfl rfl rfl) (by simp) ?_
                        refine r_move (hr 12 _ rfl rfl rfl) rfl ?_
                        exact awl_nil ⟨rfl, post_put⟩⟩⟩
                    , ⟨_, rfl, fun sl hd hr ho => by
                        refine g_run rfl (hd 18 _ rfl rfl rfl) (by simp) ?_
                        refine r_move (hr 15 _ rfl rfl rfl) rfl ?_
                        exact awl_nil ⟨rfl, post_put⟩⟩⟩
                    , ⟨_, rfl, fun sl hd hr ho => by
                        refine g_run rfl (hd 18 _ rfl rfl rfl) (by simp) ?_
                        refine r_index (hd 22 _ rfl rfl rfl) rfl (hd 23 _ rfl rfl rfl) T.sl26 T.sz33 (by omega) (get_map (get_map hy)) rfl ?_
                        exact awl_nil ⟨rfl, post_put⟩⟩⟩
                    , ⟨_, rfl, fun sl hd hr ho => by
                        refine g_run rfl (hd 18 _ rfl rfl rfl) (by simp) ?_
                        first | (refine r_fieldcp (hd 24 _ rfl rfl rfl) T.f33_3 T.sz31 rfl ?_) | (refine r_fieldb (hd 24 _ rfl rfl rfl) T.f33_3 T.sz31 rfl ?_)
                        exact awl_nil ⟨rfl, post_put⟩⟩⟩
                    , ⟨_, rfl, fun sl hd hr ho => by
                        refine g_run rfl (hd 18 _ rfl rfl rfl) (by simp) ?_
                        first | (refine r_load1 (hd 25 _ rfl rfl rfl) T.agg31 rfl ?_) | (refine r_load1b 0 (hd 25 _ rfl rfl rfl) rfl rfl T.agg31 rfl ?_)
                        exact awl_nil ⟨rfl, post_put⟩⟩⟩
                    , ⟨_, rfl, fun sl hd hr ho => by
                        refine g_run rfl (hd 18 _ rfl rfl rfl) (by simp) ?_
                        refine r_convBS (g y).data (hd 26 _ rfl rfl rfl) rfl T.sl31 T.un5 T.un9 rfl ?_
                        exact awl_nil ⟨rfl, post_put⟩⟩⟩
                    (by rfl) ?_
                  refine g_run rfl rfl (by simp) ?_
                  refine r_str2 rfl rfl rfl rfl ?_
                  refine r_pickF rfl (by simp) rfl rfl ?_
                  refine awl_nil ?_
                  refine x_then ?_
                  refine awp_cond rfl (fun hc6 => ?_) (fun hc6 => ?_)
                  ·
                    exfalso; simp at hc6
                  ·
                    refine awp_skip ?_
                    refine x_then ?_
                    refine awp_region ?_
                    refine r_move rfl rfl ?_
                    refine r_ari _ rfl rfl rfl (wrap_id (by omega)) rfl ?_
                    refine r_assign rfl rfl ?_
                    refine awl_nil ?_
                    refine x_block ?_
                    refine x_then ?_
                    refine awp_region ?_
                    refine r_ari _ rfl rfl rfl (wrap_id (by omega)) rfl ?_
                    refine r_move rfl rfl ?_
                    refine awl_nil ?_
                    refine x_then ?_
                    refine ⟨ns'.length - (i + 1), ⟨151, [(12, .a (choicesA (ns.map g))), (14, .a (choicesA (ns'.map g))), (15, .a (.v (.int .i64 ((((ns'.take (i + 1)).filter (fun n => memB n ns)).length : Nat))))), (85, .a (choicesA (ns'.map g))), (86, .a (.v (.int .i64 (((ns'.map g).map Choice.cs).length)))), (87, .a (.v (.int .i64 (((i + 1) : Int)))))], []⟩, ⟨rfl, (Slots.cons rfl (by first | exact .refl _ | exact .nilOwn _ _ | exact .nilSl _ | exact .ownSl _ _ _ | exact SV.le.of_eq (by rw [e] <;> rfl)) (Slots.cons rfl (by first | exact .refl _ | exact .nilOwn _ _ | exact .nilSl _ | exact .ownSl _ _ _ | exact SV.le.of_eq (by rw [e] <;> rfl)) (Slots.cons rfl (by first | exact .refl _ | exact .nilOwn _ _ | exact .nilSl _ | exact .ownSl _ _ _ | exact SV.le.of_eq (by rw [e] <;> rfl)) (Slots.cons rfl (by first | exact .refl _ | exact .nilOwn _ _ | exact .nilSl _ | exact .ownSl _ _ _ | exact SV.le.of_eq (by rw [e] <;> rfl)) (Slots.cons rfl (by first | exact .refl _ | exact .nilOwn _ _ | exact .nilSl _ | exact .ownSl _ _ _ | exact SV.le.of_eq (by rw [e] <;> rfl)) (Slots.cons rfl (by first | exact .refl _ | exact .nilOwn _ _ | exact .nilSl _ | exact .ownSl _ _ _ | exact SV.le.of_eq (by rw [e] <;> rfl)) Slots.nil)))))), (by first | exact List.Sublist.refl _ | exact List.nil_sublist _ | exact .cons _ (.refl _) | exact .cons _ (.cons _ (.refl _)) | exact .cons _ (.cons _ (.cons _ (.refl _))) | exact .cons _ (.cons _ (.cons _ (.cons _ (.refl _)))) | exact .cons_cons _ (List.nil_sublist _))⟩, (by omega), ⟨i + 1, rfl, rfl, (by have := (List.getElem?_eq_some_iff.1 hx).1; omega)⟩⟩
                ·
                  first | have hnx0 := hnx | have hnx : x ∉ ns := later_not hsa.1 hy (fun e => by subst e; simp at hc5)
                  first | have e0 := e | have e := hsa.2 (memB_not.2 hnx)
                  have hwf := hlost x (List.mem_of_getElem? hx) hnx
                  refine awp_seq ?_
                  refine awp_region ?_
                  first | (refine r_fieldcp rfl T.f33_2 T.sz4 rfl ?_) | (refine r_fieldb rfl T.f33_2 T.sz4 rfl ?_)
                  first | (refine r_load1 rfl T.agg4 rfl ?_) | (refine r_load1b 0 rfl rfl rfl T.agg4 rfl ?_)
                  refine awl_nil ?_
                  refine x_then ?_
                  refine awp_cond rfl (fun hc7 => ?_) (fun hc7 => ?_)
                  ·
                    exfalso; rw [hwf] at hc7; cases hc7
                  ·
                    refine awp_skip ?_
                    refine x_block ?_
                    refine x_then ?_
                    refine awp_region ?_
                    refine r_ari _ rfl rfl rfl (wrap_id (by omega)) rfl ?_
                    refine r_move rfl rfl ?_
                    refine awl_nil ?_
                    refine x_then ?_
                    refine ⟨ns'.length - (i + 1), ⟨151, [(12, .a (choicesA (ns.map g))), (14, .a (choicesA (ns'.map g))), (15, .a (.v (.int .i64 ((((ns'.take (i + 1)).filter (fun n => memB n ns)).length : Nat))))), (85, .a (choicesA (ns'.map g))), (86, .a (.v (.int .i64 (((ns'.map g).map Choice.cs).length)))), (87, .a (.v (.int .i64 (((i + 1) : Int)))))], []⟩, ⟨rfl, (Slots.cons rfl (by first | exact .refl _ | exact .nilOwn _ _ | exact .nilSl _ | exact .ownSl _ _ _ | exact SV.le.of_eq (by rw [e] <;> rfl)) (Slots.cons rfl (by first | exact .refl _ | exact .nilOwn _ _ | exact .nilSl _ | exact .ownSl _ _ _ | exact SV.le.of_eq (by rw [e] <;> rfl)) (Slots.cons rfl (by first | exact .refl _ | exact .nilOwn _ _ | exact .nilSl _ | exact .ownSl _ _ _ | exact SV.le.of_eq (by rw [e] <;> rfl)) (Slots.cons rfl (by first | exact .refl _ | exact .nilOwn _ _ | exact .nilSl _ | exact .ownSl _ _ _ | exact SV.le.of_eq (by rw [e] <;> rfl)) (Slots.cons rfl (by first | exact .refl _ | exact .nilOwn _ _ | exact .nilSl _ | exact .ownSl _ _ _ | exact SV.le.of_eq (by rw [e] <;> rfl)) (Slots.cons rfl (by first | exact .refl _ | exact .nilOwn _ _ | exact .nilSl _ | exact .ownSl _ _ _ | exact SV.le.of_eq (by rw [e] <;> rfl)) Slots.nil)))))), (by first | exact List.Sublist.refl _ | exact List.nil_sublist _ | exact .cons _ (.refl _) | exact .cons _ (.cons _ (.refl _)) | exact .cons _ (.cons _ (.cons _ (.refl _))) | exact .cons _ (.cons _ (.cons _ (.cons _ (.refl _)))) | exact .cons_cons _ (List.nil_sublist _))⟩, (by omega), ⟨i + 1, rfl, rfl, (by have := (List.getElem?_eq_some_iff.1 hx).1; omega)⟩⟩
              ·
                have hnx : x ∉ ns := fun hm => by
                  have h1 := (List.getElem?_eq_some_iff.1 (hsa.1 (memB_iff.2 hm)).1).1
                  have := of_decide_eq_false hg95; simp only [List.length_map] at this; omega
                have e := hsa.2 (memB_not.2 hnx)
                refine awp_drawS [91, 92, 93, 94, 95, 96, 97, 98, 99, 100, 101, 102] [_, _, _, _, _, _, _, _, _, _, _, _] [] [] T.mixed rfl rfl rfl ⟨⟨⟨⟨⟨⟨⟨⟨⟨⟨⟨⟨trivial
                  , ⟨_, rfl, fun sl hd hr ho => by
                      refine r_move (hr 15 _ rfl rfl rfl) rfl ?_
                      exact awl_nil ⟨rfl, post_put⟩⟩⟩
                  , ⟨_, rfl, fun sl hd hr ho => by
                      refine r_move (hr 12 _ rfl rfl rfl) rfl ?_
                      exact awl_nil ⟨rfl, post_put⟩⟩⟩
                  , ⟨_, rfl, fun sl hd hr ho => by
                      first | (refine r_lenS (hd 1 _ rfl rfl rfl) rfl T.sl26 rfl ?_) | (refine r_lenNil (hd 1 _ rfl rfl rfl) T.sl26 rfl ?_)
                      exact awl_nil ⟨rfl, post_put⟩⟩⟩
                  , ⟨_, rfl, fun sl hd hr ho => by
                      refine r_cmp (hd 0 _ rfl rfl rfl) (hd 2 _ rfl rfl rfl) rfl rfl ?_
                      exact awl_nil ⟨rfl, post_put⟩⟩⟩
                  , ⟨_, rfl, fun sl hd hr ho => by
                      refine r_move (hd 3 _ rfl rfl rfl) rfl ?_
                      exact awl_nil ⟨rfl, post_put⟩⟩⟩
                  , ⟨_, rfl, fun sl hd hr ho => by
                      refine g_skip rfl (hd 4 _ rfl rfl rfl) hg95 rfl ?_
                      exact awl_nil ⟨rfl, post_put⟩⟩⟩
                  , ⟨_, rfl, fun sl hd hr ho => by
                      refine g_skip rfl (hd 4 _ rfl rfl rfl) hg95 rfl ?_
                      exact awl_nil ⟨rfl, post_put⟩⟩⟩
                  , ⟨_, rfl, fun sl hd hr ho => by
                      refine g_skip rfl (hd 4 _ rfl rfl rfl) hg95 rfl ?_
                      exact awl_nil ⟨rfl, post_put⟩⟩⟩
                  , ⟨_, rfl, fun sl hd hr ho => by
                      refine g_skip rfl (hd 4 _ rfl rfl rfl) hg95 rfl ?_
                      exact awl_nil ⟨rfl, post_put⟩⟩⟩
                  , ⟨_, rfl, fun sl hd hr ho => by
                      refine g_skip rfl (hd 4 _ rfl rfl rfl) hg95 rfl ?_
                      exact awl_nil ⟨rfl, post_put⟩⟩⟩
                  , ⟨_, rfl, fun sl hd hr ho => by
                      refine g_skip rfl (hd 4 _ rfl rfl rfl) hg95 rfl ?_
                      exact awl_nil ⟨rfl, post_put⟩⟩⟩
                  , ⟨_, rfl, fun sl hd hr ho => by
                      refine g_skip rfl (hd 4 _ rfl rfl rfl) hg95 rfl ?_
                      exact awl_nil ⟨rfl, post_put⟩⟩⟩
                  (by rfl) ?_
                refine g_skip rfl rfl hg95 rfl ?_
                refine r_pickF rfl hg95 rfl rfl ?_
                refine awl_nil ?_
                refine x_then ?_
                refine awp_condF rfl ?_
                first | have hnx0 := hnx | have hnx : x ∉ ns := later_not hsa.1 hy (fun e => by subst e; simp at hc5)
                first | have e0 := e | have e := hsa.2 (memB_not.2 hnx)
                have hwf := hlost x (List.mem_of_getElem? hx) hnx
                refine awp_seq ?_
                refine awp_region ?_
                first | (refine r_fieldcp rfl T.f33_2 T.sz4 rfl ?_) | (refine r_fieldb rfl T.f33_2 T.sz4 rfl ?_)
                first | (refine r_load1 rfl T.agg4 rfl ?_) | (refine r_load1b 0 rfl rfl rfl T.agg4 rfl ?_)
                refine awl_nil ?_
                refine x_then ?_
                refine awp_cond rfl (fun hc7 => ?_) (fun hc7 => ?_)
                ·
                  exfalso; rw [hwf] at hc7; cases hc7
                ·
                  refine awp_skip ?_
                  refine x_block ?_
                  refine x_then ?_
                  refine awp_region ?_
                  refine r_ari _ rfl rfl rfl (wrap_id (by omega)) rfl ?_
                  refine r_move rfl rfl ?_
                  refine awl_nil ?_
                  refine x_then ?_
                  refine ⟨ns'.length - (i + 1), ⟨151, [(12, .a (choicesA (ns.map g))), (14, .a (choicesA (ns'.map g))), (15, .a (.v (.int .i64 ((((ns'.take (i + 1)).filter (fun n => memB n ns)).length : Nat))))), (85, .a (choicesA (ns'.map g))), (86, .a (.v (.int .i64 (((ns'.map g).map Choice.cs).length)))), (87, .a (.v (.int .i64 (((i + 1) : Int)))))], []⟩, ⟨rfl, (Slots.cons rfl (by first | exact .refl _ | exact .nilOwn _ _ | exact .nilSl _ | exact .ownSl _ _ _ | exact SV.le.of_eq (by rw [e] <;> rfl)) (Slots.cons rfl (by first | exact .refl _ | exact .nilOwn _ _ | exact .nilSl _ | exact .ownSl _ _ _ | exact SV.le.of_eq (by rw [e] <;> rfl)) (Slots.cons rfl (by first | exact .refl _ | exact .nilOwn _ _ | exact .nilSl _ | exact .ownSl _ _ _ | exact SV.le.of_eq (by rw [e] <;> rfl)) (Slots.cons rfl (by first | exact .refl _ | exact .nilOwn _ _ | exact .nilSl _ | exact .ownSl _ _ _ | exact SV.le.of_eq (by rw [e] <;> rfl)) (Slots.cons rfl (by first | exact .refl _ | exact .nilOwn _ _ | exact .nilSl _ | exact .ownSl _ _ _ | exact SV.le.of_eq (by rw [e] <;> rfl)) (Slots.cons rfl (by first | exact .refl _ | exact .nilOwn _ _ | exact .nilSl _ | exact .ownSl _ _ _ | exact SV.le.of_eq (by rw [e] <;> rfl)) Slots.nil)))))), (by first | exact List.Sublist.refl _ | exact List.nil_sublist _ | exact .cons _ (.refl _) | exact .cons _ (.cons _ (.refl _)) | exact .cons _ (.cons _ (.cons _ (.refl _))) | exact .cons _ (.cons _ (.cons _ (.cons _ (.refl _)))) | exact .cons_cons _ (List.nil_sublist _))⟩, (by omega), ⟨i + 1, rfl, rfl, (by have := (List.getElem?_eq_some_iff.1 hx).1; omega)⟩⟩
            ·
              have hge : ns'.length ≤ i := by have := of_decide_eq_false hc4; simp at this; omega
              have hfin : ((ns'.take i).filter (fun n => memB n ns)).length = ns.length := by rw [List.take_of_length_le hge, ← hsub]
              rw [hfin]
              refine awp_exit ?_
              refine x_thenE ?_
              refine x_thenE ?_
              refine x_blockE ?_
              refine x_then ?_
              refine awp_seq ?_
              refine awp_region ?_
              refine r_move rfl rfl ?_
              refine r_move rfl rfl ?_
              first | (refine r_lenS rfl rfl T.sl26 rfl ?_) | (refine r_lenNil rfl T.sl26 rfl ?_)
              refine r_cmp rfl rfl rfl rfl ?_
              refine r_move rfl rfl ?_
              refine g_run rfl rfl (by simp) ?_
              refine r_move rfl rfl ?_
              refine g_run rfl rfl (by simp) ?_
              refine r_call0 rfl rfl (.cons (.ev rfl rfl) .nil) (sfiles_ok _ (by omega) hpa.size) rfl T.en16 rfl (fun r hr => ?_)
              obtain rfl := hr
              rw [files_eq, hff]
              refine g_run rfl rfl (by simp) ?_
              refine r_move rfl rfl ?_
              refine g_run rfl rfl (by simp) ?_
              refine r_call0 rfl rfl (.cons (.ev rfl rfl) .nil) (sfiles_ok _ (by omega) hpb.size) rfl T.en16 rfl (fun r hr => ?_)
              obtain rfl := hr
              rw [files_eq]
              refine g_run rfl rfl (by simp) ?_
              refine r_call0 rfl rfl (.cons (.ev rfl rfl) (.cons (.ev rfl rfl) .nil)) (fsame_ok _ (by simp [rfilesOf]; omega)) rfl T.en23 rfl (fun r hr => ?_)
              obtain rfl := hr
              refine r_pickT rfl (by simp) rfl rfl ?_
              refine r_assign rfl rfl ?_
              refine awl_nil ?_
              refine x_then ?_
              refine awp_ret ?_
              exact ⟨(.inl rfl), _, [], (.one (by first | exact .mk rfl rfl | exact .nil rfl)), ⟨rfl, rfl⟩, (List.nil_sublist _), (by simp)⟩

theorem u8_of {n : Int} (h : (Lit.int .u8 n).wf = true) : ∃ b : UInt8, n = b.toNat := by
  simp [Lit.wf, IntKind.min, IntKind.max, IntKind.bits, IntKind.signed] at h
  exact ⟨UInt8.ofNat n.toNat, by simp [UInt8.toNat_ofNat']; omega⟩
theorem later_law (l : List Moment) (nums : List Int) (n : Int) (more : List File) (h : (Lit.int .u8 n).wf = true) : AC Try.prog 6 [momentsA l, numsA nums, u8A n, files more] [] (fun r n => n = [] ∧ r = boolA true) := by
  obtain ⟨b, rfl⟩ := u8_of h
  exact later_walk l nums b more

end Go.Proofs.Ytpoacfbobalpkaa.A

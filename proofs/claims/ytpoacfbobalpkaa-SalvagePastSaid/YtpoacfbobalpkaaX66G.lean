/- Layer 66: the document's example, walked. -/
import Derived.Test.YtpoacfbobalpkaaProg
import Derived.KernelRfl
import Derived.Test.YtpoacfbobalpkaaX66D
namespace Go.Proofs.Ytpoacfbobalpkaa.A
open Go Go.RowKit
set_option linter.unusedVariables false
set_option linter.unusedSimpArgs false
set_option maxRecDepth 100000

theorem T.agg70 : aggT Try.prog 70 = some false := by kernel_rfl
theorem T.sl70 : sliceT Try.prog 70 = some 41 := by kernel_rfl
theorem T.sz41 : szT Try.prog 41 = some 1 := by kernel_rfl
theorem T.agg41 : aggT Try.prog 41 = some false := by kernel_rfl
theorem T.en28 : entersT Try.prog 28 := enters_of Try.func28 (by kernel_rfl) (by kernel_rfl)
theorem T.en29 : entersT Try.prog 29 := enters_of Try.func29 (by kernel_rfl) (by kernel_rfl)
theorem T.zraw41 : zeroT Try.prog 41 = some [(.slice none 0 0)] := by kernel_rfl
theorem T.zero70 : ZeroT Try.prog 70 [.v (.slice none 0 0)] := ⟨[(.slice none 0 0)], by kernel_rfl, (LeCells.refl _)⟩
theorem T.sz70 : szT Try.prog 70 = some 1 := by kernel_rfl
theorem T.zraw30 : zeroT Try.prog 30 = some [(.int .u64 0)] := by kernel_rfl
theorem T.en11 : entersT Try.prog 11 := enters_of Try.func11 (by kernel_rfl) (by kernel_rfl)
theorem T.en16 : entersT Try.prog 16 := enters_of Try.func16 (by kernel_rfl) (by kernel_rfl)
theorem T.en19 : entersT Try.prog 19 := enters_of Try.func19 (by kernel_rfl) (by kernel_rfl)

def sa : ByteArray := ⟨#[97]⟩
def sb : ByteArray := ⟨#[98]⟩
def dx : List UInt8 := [120]
def dy : List UInt8 := [108, 111, 99, 107, 101, 100]
def look3 (m : Int) : Option (List File) := if m = 1 then some [⟨sa, dx⟩] else if m = 2 then some [⟨sb, dy⟩, ⟨sa, dx⟩] else if m = 3 then some [⟨sa, dy⟩, ⟨sb, dy⟩] else none
def list3 : AV := .sl 1 [[files [⟨sa, dx⟩]], [files [⟨sb, dy⟩, ⟨sa, dx⟩]], [files [⟨sa, dy⟩, ⟨sb, dy⟩]]]
theorem sab : (sa = sb) = False := by simp only [eq_iff_iff, iff_false]; intro h; have := congrArg ByteArray.data h; simp [sa, sb] at this
theorem sba : (sb = sa) = False := by simp only [eq_iff_iff, iff_false]; intro h; have := congrArg ByteArray.data h; simp [sa, sb] at this
theorem best3 : bestOf look3 (fun _ d => d.length == 1) [1, 2, 3] = [(sa, ⟨sa, 2, true, dx⟩), (sb, ⟨sb, 0, false, []⟩)] := by
  simp [bestOf, stepM, look3, stepF, mget, mset, sab, sba, dx, dy]
theorem ltab : ltS sa sb = true := by simp [ltS, sa, sb]; decide
theorem sort2 : sortB [sa, sb] = [sa, sb] :=
  sortedS_ext (sortB_sorted (by simp [sab])) (by simp [SortedS, ltab]) (fun x => sortB_mem)
theorem sort1 (s : ByteArray) : sortB [s] = [s] := sortedS_ext (sortB_sorted (by simp)) (by simp [SortedS]) (fun x => sortB_mem)
theorem plan3 : planOf look3 (fun _ d => d.length == 1) [1, 2, 3] = [⟨sa, 2, true, dx⟩, ⟨sb, 0, false, []⟩] := by
  unfold planOf; rw [best3]; simp [sort2, mget, sab, sba]
theorem chosen3 : chosen [⟨sa, 2, true, dx⟩, ⟨sb, 0, false, []⟩] = [(sa, ⟨sa, 2, true, dx⟩)] := by simp [chosen, stepC, mget, mset, sab]
theorem files3 : filesOf [⟨sa, 2, true, dx⟩, ⟨sb, 0, false, []⟩] = [⟨sa, dx⟩] := by
  unfold filesOf; rw [chosen3]; simp [sort1, mget]
theorem lost3 : lostOf [⟨sa, 2, true, dx⟩, ⟨sb, 0, false, []⟩] = [sb] := by
  unfold lostOf; rw [chosen3]; simp [stepL, mget, mset, sab, sort1]

theorem awake1_1 : AC Try.prog 28 [.v (.int .u64 1), .cp [list3]] [] (fun r n => n = [] ∧ r = atR (look3 1)) := by
  refine ac_of_awp (rs := [3, 4]) (nt := 16) Try.func28 rfl rfl rfl rfl (fun w0 C0 => ?_)
  refine awp_seq ?_
  refine awp_region ?_
  refine r_assign rfl rfl ?_
  refine r_assign rfl rfl ?_
  refine awl_nil ?_
  refine x_then ?_
  refine awp_seq ?_
  refine awp_seq ?_
  refine awp_region ?_
  refine r_move rfl rfl ?_
  refine r_cmp rfl rfl rfl rfl ?_
  refine r_move rfl rfl ?_
  refine g_run rfl rfl rfl ?_
  refine r_move rfl rfl ?_
  refine g_run rfl rfl rfl ?_
  refine r_cmp rfl rfl rfl rfl ?_
  refine r_pickF rfl rfl rfl rfl ?_
  refine awl_nil ?_
  refine x_then ?_
  refine awp_cond rfl (fun hc0 => ?_) (fun hc0 => ?_)
  ·
    exfalso; exact absurd hc0 (by decide)
  ·
    refine awp_skip ?_
    refine x_then ?_
    refine awp_seq ?_
    refine awp_region ?_
    refine r_load1 rfl T.agg70 rfl ?_
    refine r_move rfl rfl ?_
    refine r_ari 0 rfl rfl rfl rfl rfl ?_
    refine r_index rfl rfl rfl T.sl70 T.sz41 (by decide) rfl rfl ?_
    refine r_load1 rfl T.agg41 rfl ?_
    refine r_assign rfl rfl ?_
    refine r_assign rfl rfl ?_
    refine awl_nil ?_
    refine x_then ?_
    refine awp_ret ?_
    exact ⟨(.inl rfl), _, [], (.two (by first | exact .mk rfl rfl | exact .nil rfl) (by first | exact .mk rfl rfl | exact .nil rfl)), ⟨rfl, rfl⟩, (List.nil_sublist _), (by simp)⟩

theorem awake1_2 : AC Try.prog 28 [.v (.int .u64 2), .cp [list3]] [] (fun r n => n = [] ∧ r = atR (look3 2)) := by
  refine ac_of_awp (rs := [3, 4]) (nt := 16) Try.func28 rfl rfl rfl rfl (fun w0 C0 => ?_)
  refine awp_seq ?_
  refine awp_region ?_
  refine r_assign rfl rfl ?_
  refine r_assign rfl rfl ?_
  refine awl_nil ?_
  refine x_then ?_
  refine awp_seq ?_
  refine awp_seq ?_
  refine awp_region ?_
  refine r_move rfl rfl ?_
  refine r_cmp rfl rfl rfl rfl ?_
  refine r_move rfl rfl ?_
  refine g_run rfl rfl rfl ?_
  refine r_move rfl rfl ?_
  refine g_run rfl rfl rfl ?_
  refine r_cmp rfl rfl rfl rfl ?_
  refine r_pickF rfl rfl rfl rfl ?_
  refine awl_nil ?_
  refine x_then ?_
  refine awp_cond rfl (fun hc0 => ?_) (fun hc0 => ?_)
  ·
    exfalso; exact absurd hc0 (by decide)
  ·
    refine awp_skip ?_
    refine x_then ?_
    refine awp_seq ?_
    refine awp_region ?_
    refine r_load1 rfl T.agg70 rfl ?_
    refine r_move rfl rfl ?_
    refine r_ari 1 rfl rfl rfl rfl rfl ?_
    refine r_index rfl rfl rfl T.sl70 T.sz41 (by decide) rfl rfl ?_
    refine r_load1 rfl T.agg41 rfl ?_
    refine r_assign rfl rfl ?_
    refine r_assign rfl rfl ?_
    refine awl_nil ?_
    refine x_then ?_
    refine awp_ret ?_
    exact ⟨(.inl rfl), _, [], (.two (by first | exact .mk rfl rfl | exact .nil rfl) (by first | exact .mk rfl rfl | exact .nil rfl)), ⟨rfl, rfl⟩, (List.nil_sublist _), (by simp)⟩

theorem awake1_3 : AC Try.prog 28 [.v (.int .u64 3), .cp [list3]] [] (fun r n => n = [] ∧ r = atR (look3 3)) := by
  refine ac_of_awp (rs := [3, 4]) (nt := 16) Try.func28 rfl rfl rfl rfl (fun w0 C0 => ?_)
  refine awp_seq ?_
  refine awp_region ?_
  refine r_assign rfl rfl ?_
  refine r_assign rfl rfl ?_
  refine awl_nil ?_
  refine x_then ?_
  refine awp_seq ?_
  refine awp_seq ?_
  refine awp_region ?_
  refine r_move rfl rfl ?_
  refine r_cmp rfl rfl rfl rfl ?_
  refine r_move rfl rfl ?_
  refine g_run rfl rfl rfl ?_
  refine r_move rfl rfl ?_
  refine g_run rfl rfl rfl ?_
  refine r_cmp rfl rfl rfl rfl ?_
  refine r_pickF rfl rfl rfl rfl ?_
  refine awl_nil ?_
  refine x_then ?_
  refine awp_cond rfl (fun hc0 => ?_) (fun hc0 => ?_)
  ·
    exfalso; exact absurd hc0 (by decide)
  ·
    refine awp_skip ?_
    refine x_then ?_
    refine awp_seq ?_
    refine awp_region ?_
    refine r_load1 rfl T.agg70 rfl ?_
    refine r_move rfl rfl ?_
    refine r_ari 2 rfl rfl rfl rfl rfl ?_
    refine r_index rfl rfl rfl T.sl70 T.sz41 (by decide) rfl rfl ?_
    refine r_load1 rfl T.agg41 rfl ?_
    refine r_assign rfl rfl ?_
    refine r_assign rfl rfl ?_
    refine awl_nil ?_
    refine x_then ?_
    refine awp_ret ?_
    exact ⟨(.inl rfl), _, [], (.two (by first | exact .mk rfl rfl | exact .nil rfl) (by first | exact .mk rfl rfl | exact .nil rfl)), ⟨rfl, rfl⟩, (List.nil_sublist _), (by simp)⟩

theorem awake2_ok (s : ByteArray) (d : List UInt8) : AC Try.prog 29 [strA s, bts d] [] (fun r n => n = [] ∧ r = boolA (d.length == 1)) := by
  refine ac_of_awp (rs := [4]) (nt := 8) Try.func29 rfl rfl rfl rfl (fun w0 C0 => ?_)
  refine awp_seq ?_
  refine awp_region ?_
  refine r_assign rfl rfl ?_
  refine awl_nil ?_
  refine x_then ?_
  refine awp_seq ?_
  refine awp_region ?_
  refine r_move rfl rfl ?_
  first | (refine r_lenS rfl rfl T.sl31 rfl ?_) | (refine r_lenNil rfl T.sl31 rfl ?_)
  refine r_cmp rfl rfl rfl rfl ?_
  refine r_assign rfl rfl ?_
  refine awl_nil ?_
  refine x_then ?_
  refine awp_ret ?_
  exact ⟨(.inl rfl), _, [], (.one (by first | exact .mk rfl rfl | exact .nil rfl)), ⟨rfl, by simp only [u8s_length]; show AV.v (.bool ((d.length : Int) == 1)) = AV.v (.bool (d.length == 1)); rw [show ((d.length : Int) == 1) = (d.length == 1) from by rw [Bool.eq_iff_iff]; simp; omega]⟩, (List.nil_sublist _), (by simp)⟩

theorem plan3_ok : AC Try.prog 11 [numsA [1, 2, 3], .fn 28 [.cp [list3]], .fn 29 []] [] (fun r n => n = [] ∧ r = choicesA [⟨sa, 2, true, dx⟩, ⟨sb, 0, false, []⟩]) := by
  rw [← plan3]
  refine plan_ok [1, 2, 3] look3 (fun _ d => d.length == 1) (by simp) (fun m hm fs hl => ?_) T.en28 (fun m hm => ?_) T.en29 (fun s d _ => awake2_ok s d) (by rw [best3]; simp) (fun s hs => ?_)
  · unfold look3 at hl
    split at hl
    · cases hl; simp [dx]
    · split at hl
      · cases hl; simp [dx, dy]
      · split at hl
        · cases hl; simp [dy]
        · cases hl
  · simp only [List.mem_cons, List.mem_nil_iff, or_false] at hm
    rcases hm with rfl | rfl | rfl
    · exact awake1_1
    · exact awake1_2
    · exact awake1_3
  · rw [best3] at hs
    simp at hs
    rcases hs with rfl | rfl
    · simp [sa, ByteArray.size, maxLen]
    · simp [sb, ByteArray.size, maxLen]

theorem awake_ok : AC Try.prog 9 [] [] (fun r n => n = [] ∧ r = boolA true) := by
  refine ac_of_awp (rs := [0]) (nt := 100) Try.func9 rfl rfl rfl rfl (fun w0 C0 => ?_)
  refine awp_seq ?_
  refine awp_region ?_
  refine r_assign rfl rfl ?_
  refine awl_nil ?_
  refine x_then ?_
  refine awp_seq ?_
  refine awp_region ?_
  refine r_lit 7 (parts := [(0, .const ((Go.Value.int Go.IntKind.u8 120)))]) rfl T.sl31 T.sz5 T.zraw5 rfl rfl rfl rfl rfl rfl rfl ?_
  refine r_convBB 7 rfl (by simp [chunks]) T.sl31 T.un5 rfl ?_
  refine r_lit 9 (parts := [(0, .const ((Go.Value.int Go.IntKind.u8 108))), (1, .const ((Go.Value.int Go.IntKind.u8 111))), (2, .const ((Go.Value.int Go.IntKind.u8 99))), (3, .const ((Go.Value.int Go.IntKind.u8 107))), (4, .const ((Go.Value.int Go.IntKind.u8 101))), (5, .const ((Go.Value.int Go.IntKind.u8 100)))]) rfl T.sl31 T.sz5 T.zraw5 rfl rfl rfl rfl rfl rfl rfl ?_
  refine r_convBB 9 rfl (by simp [chunks]) T.sl31 T.un5 rfl ?_
  refine r_assign rfl rfl ?_
  refine r_assign rfl rfl ?_
  refine awl_nil ?_
  refine x_then ?_
  refine awp_seq ?_
  refine awp_region ?_
  refine r_move rfl rfl ?_
  refine r_build (parts := [(0, .const ((Go.Value.string { data := #[97] }))), (1, .tmp 11)]) rfl T.pl50 T.zero50 rfl rfl rfl ?_
  refine r_lit 13 (parts := [(0, .tmp 12)]) rfl T.sl41 T.sz50 T.zraw50 rfl rfl rfl rfl rfl rfl rfl ?_
  refine r_move rfl rfl ?_
  refine r_build (parts := [(0, .const ((Go.Value.string { data := #[98] }))), (1, .tmp 14)]) rfl T.pl50 T.zero50 rfl rfl rfl ?_
  refine r_move rfl rfl ?_
  refine r_build (parts := [(0, .const ((Go.Value.string { data := #[97] }))), (1, .tmp 16)]) rfl T.pl50 T.zero50 rfl rfl rfl ?_
  refine r_lit 18 (parts := [(0, .tmp 15), (1, .tmp 17)]) rfl T.sl41 T.sz50 T.zraw50 rfl rfl rfl rfl rfl rfl rfl ?_
  refine r_move rfl rfl ?_
  refine r_build (parts := [(0, .const ((Go.Value.string { data := #[97] }))), (1, .tmp 19)]) rfl T.pl50 T.zero50 rfl rfl rfl ?_
  refine r_move rfl rfl ?_
  refine r_build (parts := [(0, .const ((Go.Value.string { data := #[98] }))), (1, .tmp 21)]) rfl T.pl50 T.zero50 rfl rfl rfl ?_
  refine r_lit 23 (parts := [(0, .tmp 20), (1, .tmp 22)]) rfl T.sl41 T.sz50 T.zraw50 rfl rfl rfl rfl rfl rfl rfl ?_
  refine r_lit 24 (parts := [(0, .tmp 13), (1, .tmp 18), (2, .tmp 23)]) rfl T.sl70 T.sz41 T.zraw41 rfl rfl rfl rfl rfl rfl rfl ?_
  refine r_alloc T.zero70 rfl (fun b3 => ?_)
  refine r_store 0 rfl rfl rfl T.sz70 rfl rfl rfl ?_
  refine awl_nil ?_
  refine x_then ?_
  refine awp_seq ?_
  refine awp_region ?_
  refine r_lit 25 (parts := [(0, .const ((Go.Value.int Go.IntKind.u64 1))), (1, .const ((Go.Value.int Go.IntKind.u64 2))), (2, .const ((Go.Value.int Go.IntKind.u64 3)))]) rfl T.sl23 T.sz30 T.zraw30 rfl rfl rfl rfl rfl rfl rfl ?_
  refine awl_imp (imp_commit 0 3 rfl rfl rfl rfl) ?_
  refine r_makeFunc rfl (.cons (.ev rfl rfl) .nil) rfl ?_
  refine r_call0 rfl rfl (.cons (.ev rfl rfl) (.cons (.ev rfl rfl) (.cons (.ev rfl rfl) .nil))) (plan3_ok) rfl T.en11 rfl (fun r hr => ?_)
  obtain rfl := hr
  refine r_assign rfl rfl ?_
  refine awl_nil ?_
  refine x_then ?_
  refine awp_seq ?_
  refine awp_region ?_
  refine r_move rfl rfl ?_
  refine r_call0 rfl rfl (.cons (.ev rfl rfl) .nil) (sfiles_ok [⟨sa, 2, true, dx⟩, ⟨sb, 0, false, []⟩] (by simp) (fun c hc => by simp at hc; rcases hc with rfl | rfl <;> simp [sa, sb, dx, ByteArray.size])) rfl T.en16 rfl (fun r hr => ?_)
  obtain rfl := hr
  rw [files3]
  refine r_move rfl rfl ?_
  refine r_call0 rfl rfl (.cons (.ev rfl rfl) .nil) (slost_ok [⟨sa, 2, true, dx⟩, ⟨sb, 0, false, []⟩] (by simp) (fun c hc => by simp at hc; rcases hc with rfl | rfl <;> simp [sa, sb, dx, ByteArray.size])) rfl T.en19 rfl (fun r hr => ?_)
  obtain rfl := hr
  rw [lost3]
  refine r_assign rfl rfl ?_
  refine r_assign rfl rfl ?_
  refine awl_nil ?_
  refine x_then ?_
  refine awp_seq ?_
  refine awp_region ?_
  refine r_move rfl rfl ?_
  first | (refine r_lenS rfl rfl T.sl26 rfl ?_) | (refine r_lenNil rfl T.sl26 rfl ?_)
  refine r_cmp rfl rfl rfl rfl ?_
  refine r_move rfl rfl ?_
  refine g_run rfl rfl (by first | rfl | decide | simp) ?_
  refine r_move rfl rfl ?_
  refine g_run rfl rfl (by first | rfl | decide | simp) ?_
  refine r_index rfl rfl rfl T.sl26 T.sz33 (by decide) rfl rfl ?_
  refine g_run rfl rfl (by first | rfl | decide | simp) ?_
  first | (refine r_fieldcp rfl T.f33_0 T.sz9 rfl ?_) | (refine r_fieldb rfl T.f33_0 T.sz9 rfl ?_)
  refine g_run rfl rfl (by first | rfl | decide | simp) ?_
  first | (refine r_load1 rfl T.agg9 rfl ?_) | (refine r_load1b 0 rfl rfl rfl T.agg9 rfl ?_)
  refine g_run rfl rfl (by first | rfl | decide | simp) ?_
  refine r_str2 rfl rfl rfl rfl ?_
  refine r_pickT rfl (by first | rfl | decide | simp) rfl rfl ?_
  refine r_move rfl rfl ?_
  refine g_run rfl rfl (by first | rfl | decide | simp) ?_
  refine r_move rfl rfl ?_
  refine g_run rfl rfl (by first | rfl | decide | simp) ?_
  refine r_index rfl rfl rfl T.sl26 T.sz33 (by decide) rfl rfl ?_
  refine g_run rfl rfl (by first | rfl | decide | simp) ?_
  first | (refine r_fieldcp rfl T.f33_1 T.sz30 rfl ?_) | (refine r_fieldb rfl T.f33_1 T.sz30 rfl ?_)
  refine g_run rfl rfl (by first | rfl | decide | simp) ?_
  first | (refine r_load1 rfl T.agg30 rfl ?_) | (refine r_load1b 0 rfl rfl rfl T.agg30 rfl ?_)
  refine g_run rfl rfl (by first | rfl | decide | simp) ?_
  refine r_cmp rfl rfl rfl rfl ?_
  refine r_pickT rfl (by first | rfl | decide | simp) rfl rfl ?_
  refine r_move rfl rfl ?_
  refine g_run rfl rfl (by first | rfl | decide | simp) ?_
  refine r_move rfl rfl ?_
  refine g_run rfl rfl (by first | rfl | decide | simp) ?_
  refine r_index rfl rfl rfl T.sl26 T.sz33 (by decide) rfl rfl ?_
  refine g_run rfl rfl (by first | rfl | decide | simp) ?_
  first | (refine r_fieldcp rfl T.f33_2 T.sz4 rfl ?_) | (refine r_fieldb rfl T.f33_2 T.sz4 rfl ?_)
  refine g_run rfl rfl (by first | rfl | decide | simp) ?_
  first | (refine r_load1 rfl T.agg4 rfl ?_) | (refine r_load1b 0 rfl rfl rfl T.agg4 rfl ?_)
  refine r_pickT rfl (by first | rfl | decide | simp) rfl rfl ?_
  refine r_move rfl rfl ?_
  refine g_run rfl rfl (by first | rfl | decide | simp) ?_
  refine r_move rfl rfl ?_
  refine g_run rfl rfl (by first | rfl | decide | simp) ?_
  refine r_index rfl rfl rfl T.sl26 T.sz33 (by decide) rfl rfl ?_
  refine g_run rfl rfl (by first | rfl | decide | simp) ?_
  first | (refine r_fieldcp rfl T.f33_3 T.sz31 rfl ?_) | (refine r_fieldb rfl T.f33_3 T.sz31 rfl ?_)
  refine g_run rfl rfl (by first | rfl | decide | simp) ?_
  first | (refine r_load1 rfl T.agg31 rfl ?_) | (refine r_load1b 0 rfl rfl rfl T.agg31 rfl ?_)
  refine g_run rfl rfl (by first | rfl | decide | simp) ?_
  refine r_convBS [120] rfl rfl T.sl31 T.un5 T.un9 rfl ?_
  refine g_run rfl rfl (by first | rfl | decide | simp) ?_
  refine r_str2 rfl rfl rfl rfl ?_
  refine r_pickT rfl (by first | rfl | decide | simp) rfl rfl ?_
  refine r_move rfl rfl ?_
  refine g_run rfl rfl (by first | rfl | decide | simp) ?_
  refine r_move rfl rfl ?_
  refine g_run rfl rfl (by first | rfl | decide | simp) ?_
  refine r_index rfl rfl rfl T.sl26 T.sz33 (by decide) rfl rfl ?_
  refine g_run rfl rfl (by first | rfl | decide | simp) ?_
  first | (refine r_fieldcp rfl T.f33_2 T.sz4 rfl ?_) | (refine r_fieldb rfl T.f33_2 T.sz4 rfl ?_)
  refine g_run rfl rfl (by first | rfl | decide | simp) ?_
  first | (refine r_load1 rfl T.agg4 rfl ?_) | (refine r_load1b 0 rfl rfl rfl T.agg4 rfl ?_)
  refine g_run rfl rfl (by first | rfl | decide | simp) ?_
  refine r_not rfl rfl ?_
  refine r_pickT rfl (by first | rfl | decide | simp) rfl rfl ?_
  refine r_move rfl rfl ?_
  refine g_run rfl rfl (by first | rfl | decide | simp) ?_
  refine r_move rfl rfl ?_
  refine g_run rfl rfl (by first | rfl | decide | simp) ?_
  refine r_index rfl rfl rfl T.sl26 T.sz33 (by decide) rfl rfl ?_
  refine g_run rfl rfl (by first | rfl | decide | simp) ?_
  first | (refine r_fieldcp rfl T.f33_1 T.sz30 rfl ?_) | (refine r_fieldb rfl T.f33_1 T.sz30 rfl ?_)
  refine g_run rfl rfl (by first | rfl | decide | simp) ?_
  first | (refine r_load1 rfl T.agg30 rfl ?_) | (refine r_load1b 0 rfl rfl rfl T.agg30 rfl ?_)
  refine g_run rfl rfl (by first | rfl | decide | simp) ?_
  refine r_cmp rfl rfl rfl rfl ?_
  refine r_pickT rfl (by first | rfl | decide | simp) rfl rfl ?_
  refine r_move rfl rfl ?_
  refine g_run rfl rfl (by first | rfl | decide | simp) ?_
  refine r_move rfl rfl ?_
  refine g_run rfl rfl (by first | rfl | decide | simp) ?_
  first | (refine r_lenS rfl rfl T.sl41 rfl ?_) | (refine r_lenNil rfl T.sl41 rfl ?_)
  refine g_run rfl rfl (by first | rfl | decide | simp) ?_
  refine r_cmp rfl rfl rfl rfl ?_
  refine r_pickT rfl (by first | rfl | decide | simp) rfl rfl ?_
  refine r_move rfl rfl ?_
  refine g_run rfl rfl (by first | rfl | decide | simp) ?_
  refine r_move rfl rfl ?_
  refine g_run rfl rfl (by first | rfl | decide | simp) ?_
  refine r_index rfl rfl rfl T.sl41 T.sz50 (by decide) rfl rfl ?_
  refine g_run rfl rfl (by first | rfl | decide | simp) ?_
  first | (refine r_fieldcp rfl T.f50_0 T.sz9 rfl ?_) | (refine r_fieldb rfl T.f50_0 T.sz9 rfl ?_)
  refine g_run rfl rfl (by first | rfl | decide | simp) ?_
  first | (refine r_load1 rfl T.agg9 rfl ?_) | (refine r_load1b 0 rfl rfl rfl T.agg9 rfl ?_)
  refine g_run rfl rfl (by first | rfl | decide | simp) ?_
  refine r_str2 rfl rfl rfl rfl ?_
  refine r_pickT rfl (by first | rfl | decide | simp) rfl rfl ?_
  refine r_move rfl rfl ?_
  refine g_run rfl rfl (by first | rfl | decide | simp) ?_
  refine r_move rfl rfl ?_
  refine g_run rfl rfl (by first | rfl | decide | simp) ?_
  first | (refine r_lenS rfl rfl T.sl46 rfl ?_) | (refine r_lenNil rfl T.sl46 rfl ?_)
  refine g_run rfl rfl (by first | rfl | decide | simp) ?_
  refine r_cmp rfl rfl rfl rfl ?_
  refine r_pickT rfl (by first | rfl | decide | simp) rfl rfl ?_
  refine r_move rfl rfl ?_
  refine g_run rfl rfl (by first | rfl | decide | simp) ?_
  refine r_move rfl rfl ?_
  refine g_run rfl rfl (by first | rfl | decide | simp) ?_
  refine r_index rfl rfl rfl T.sl46 T.sz9 (by decide) rfl rfl ?_
  refine g_run rfl rfl (by first | rfl | decide | simp) ?_
  first | (refine r_load1 rfl T.agg9 rfl ?_) | (refine r_load1b 0 rfl rfl rfl T.agg9 rfl ?_)
  refine g_run rfl rfl (by first | rfl | decide | simp) ?_
  refine r_str2 rfl rfl rfl rfl ?_
  refine r_pickT rfl (by first | rfl | decide | simp) rfl rfl ?_
  refine r_assign rfl rfl ?_
  refine awl_nil ?_
  refine x_then ?_
  refine awp_ret ?_
  exact ⟨(.inl rfl), _, [], (.one (by first | exact .mk rfl rfl | exact .nil rfl)), ⟨rfl, by first | rfl | simp [SV.av]⟩, (List.nil_sublist _), (by simp)⟩

end Go.Proofs.Ytpoacfbobalpkaa.A

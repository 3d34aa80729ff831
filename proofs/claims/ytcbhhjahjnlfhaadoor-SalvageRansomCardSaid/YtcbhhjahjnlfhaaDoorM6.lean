import Derived.WalkKit
import Derived.Below
import Derived.Laws.Rows
import Derived.Laws.CopyRow
import Derived.Laws.AppendOwn
import Derived.RangeFuncLeaves
import Derived.RangeFuncSeq
import Derived.RangeFuncCalls
import Derived.MapKept
import Derived.Orders
import Derived.Laws.IdiomStrings
import Derived.Laws.BytesArg
import Derived.Shelf.SlIter.Nil
import Derived.Shelf.SortM.Plain
import Derived.Shelf.SortM.SortNone
import Derived.Ground.GgzProg
import Derived.Ground.SlgmProg
import Derived.Test.YtcbhhjahjnlfhaaDoorProg
import Derived.KernelRfl
import Derived.RangeFuncBound
import Derived.Maps.RangeRun
import Derived.DeepKeys3
import Derived.Laws.StructEq
import Derived.Shelf.SlSortCmp.NoneTotal
import Derived.ChangeKeysEq
import Derived.Laws.MakeOwn
import Derived.ChangeArms
import Derived.ChangeOld
import Derived.Laws.DeepStrings4
import Derived.OpenShut
import Derived.OrdersIn
import Derived.Lib.AppendZeros
import Derived.Lib.AppendZerosOnto
import Derived.Lib.Overlaps
import Derived.Deep.AppendSrc
import Derived.Lib.BytesEntry
import Derived.Laws.Concat
import Derived.Laws.Strings3
import Derived.Test.YtcbhhjahjnlfhaaDoorRows
import Derived.ProofKit
import Derived.LaidMore
import Derived.Stop.Joined
import Derived.Stop.BytesEq
import Derived.Laws.Runes
import Derived.Test.YtcbhhjahjnlfhaaDoorM5
namespace Go.Proofs.YtcbhhjahjnlfhaaDoor.A
open Go Go.RowKit
set_option linter.unusedVariables false
set_option linter.unusedSimpArgs false
set_option maxRecDepth 100000
theorem TG.agg28 : aggT Tryd.prog 28 = some false := by kernel_rfl
theorem TG.sl28 : sliceT Tryd.prog 28 = some 24 := by kernel_rfl
theorem TG.en32 : entersT Tryd.prog 32 := enters_of Tryd.func32 (by kernel_rfl) (by kernel_rfl)
theorem TG.en33 : entersT Tryd.prog 33 := enters_of Tryd.func33 (by kernel_rfl) (by kernel_rfl)
theorem TG.zraw24 : zeroT Tryd.prog 24 = some [(.slice none 0 0)] := by kernel_rfl
theorem TG.zero28 : ZeroT Tryd.prog 28 [.v (.slice none 0 0)] := ⟨[(.slice none 0 0)], by kernel_rfl, (LeCells.refl _)⟩
theorem TG.sz28 : szT Tryd.prog 28 = some 1 := by kernel_rfl
theorem TG.zraw47 : zeroT Tryd.prog 47 = some [(.int .u64 0)] := by kernel_rfl
theorem TG.en11 : entersT Tryd.prog 11 := enters_of Tryd.func11 (by kernel_rfl) (by kernel_rfl)
theorem TG.en15 : entersT Tryd.prog 15 := enters_of Tryd.func15 (by kernel_rfl) (by kernel_rfl)
theorem TG.en16 : entersT Tryd.prog 16 := enters_of Tryd.func16 (by kernel_rfl) (by kernel_rfl)
theorem TG.f63_1 : fieldT Tryd.prog 63 1 = some (1, 47) := by kernel_rfl
def sa66 : ByteArray := ⟨#[97]⟩
def sb66 : ByteArray := ⟨#[98]⟩
def dx66 : List UInt8 := [120]
def dy66 : List UInt8 := [108, 111, 99, 107, 101, 100]
def look3 (m : Int) : Option (List File) := if m = 1 then some [⟨sa66, dx66⟩] else if m = 2 then some [⟨sb66, dy66⟩, ⟨sa66, dx66⟩] else if m = 3 then some [⟨sa66, dy66⟩, ⟨sb66, dy66⟩] else none
def list3 : AV := .sl 1 [[files [⟨sa66, dx66⟩]], [files [⟨sb66, dy66⟩, ⟨sa66, dx66⟩]], [files [⟨sa66, dy66⟩, ⟨sb66, dy66⟩]]]
theorem sab66 : (sa66 = sb66) = False := by simp only [eq_iff_iff, iff_false]; intro h; have := congrArg ByteArray.data h; simp [sa66, sb66] at this
theorem sba66 : (sb66 = sa66) = False := by simp only [eq_iff_iff, iff_false]; intro h; have := congrArg ByteArray.data h; simp [sa66, sb66] at this
theorem best3 : bestOf look3 (fun _ d => d.length == 1) [1, 2, 3] = [(sa66, ⟨sa66, 2, true, dx66⟩), (sb66, ⟨sb66, 0, false, []⟩)] := by
  simp [bestOf, stepPl, look3, stepF, mget, mset, sab66, sba66, dx66, dy66]
theorem ltab66 : ltS sa66 sb66 = true := by simp [ltS, sa66, sb66]; decide
theorem sort2Z : sortB [sa66, sb66] = [sa66, sb66] :=
  sortedS_ext (sortB_sorted (by simp [sab66])) (by simp [SortedS, ltab66]) (fun x => sortB_mem)
theorem sort1Z (s : ByteArray) : sortB [s] = [s] := sortedS_ext (sortB_sorted (by simp)) (by simp [SortedS]) (fun x => sortB_mem)
theorem plan3 : planOf look3 (fun _ d => d.length == 1) [1, 2, 3] = [⟨sa66, 2, true, dx66⟩, ⟨sb66, 0, false, []⟩] := by
  unfold planOf; rw [best3]; simp [sort2Z, mget, sab66, sba66]
theorem chosen3 : chosen [⟨sa66, 2, true, dx66⟩, ⟨sb66, 0, false, []⟩] = [(sa66, ⟨sa66, 2, true, dx66⟩)] := by simp [chosen, stepC, mget, mset, sab66]
theorem files3 : filesOf [⟨sa66, 2, true, dx66⟩, ⟨sb66, 0, false, []⟩] = [⟨sa66, dx66⟩] := by
  unfold filesOf; rw [chosen3]; simp [sort1Z, mget]
theorem lost3 : lostOf [⟨sa66, 2, true, dx66⟩, ⟨sb66, 0, false, []⟩] = [sb66] := by
  unfold lostOf; rw [chosen3]; simp [stepL, mget, mset, sab66, sort1Z]
theorem awake1_1 : AC Tryd.prog 32 [.v (.int .u64 1), .cp [list3]] [] (fun r n => n = [] ∧ r = atR (look3 1)) := by
 refine ac_of_awp (rs := [3, 4]) (nt := 16) Tryd.func32 rfl rfl rfl rfl (fun w0 C0 hq => ?_)
 refine awp_seq ?_
 refine awp_region ?_
 refine r_assign rfl rfl ?_
 refine r_assign rfl rfl ?_
 refine awl_nil ?_
 refine x_then ?_
 refine awp_seq ?_
 refine awp_seq ?_
 refine awp_region ?_
 refine r_move rfl rfl ?_
 refine r_cmp rfl rfl rfl rfl ?_
 refine r_move rfl rfl ?_
 refine g_run rfl rfl rfl ?_
 refine r_move rfl rfl ?_
 refine g_run rfl rfl rfl ?_
 refine r_cmp rfl rfl rfl rfl ?_
 refine r_pickF rfl rfl rfl rfl ?_
 refine awl_nil ?_
 refine x_then ?_
 refine awp_cond rfl (fun hc0 => ?_) (fun hc0 => ?_)
 ·
  exfalso; exact absurd hc0 (by decide)
 ·
  refine awp_skip ?_
  refine x_then ?_
  refine awp_seq ?_
  refine awp_region ?_
  refine r_load1 rfl TG.agg28 rfl ?_
  refine r_move rfl rfl ?_
  refine r_ari 0 rfl rfl rfl rfl rfl ?_
  refine r_index rfl rfl rfl TG.sl28 TG.sz24 (by decide) rfl rfl ?_
  refine r_load1 rfl TG.agg24 rfl ?_
  refine r_assign rfl rfl ?_
  refine r_assign rfl rfl ?_
  refine awl_nil ?_
  refine x_then ?_
  refine awp_ret ?_
  exact ⟨(.inl rfl), _, [], (.two (by first | exact .mk rfl rfl | exact .nil rfl) (by first | exact .mk rfl rfl | exact .nil rfl)), ⟨rfl, rfl⟩, (List.nil_sublist _), (by simp)⟩
theorem awake1_2 : AC Tryd.prog 32 [.v (.int .u64 2), .cp [list3]] [] (fun r n => n = [] ∧ r = atR (look3 2)) := by
 refine ac_of_awp (rs := [3, 4]) (nt := 16) Tryd.func32 rfl rfl rfl rfl (fun w0 C0 hq => ?_)
 refine awp_seq ?_
 refine awp_region ?_
 refine r_assign rfl rfl ?_
 refine r_assign rfl rfl ?_
 refine awl_nil ?_
 refine x_then ?_
 refine awp_seq ?_
 refine awp_seq ?_
 refine awp_region ?_
 refine r_move rfl rfl ?_
 refine r_cmp rfl rfl rfl rfl ?_
 refine r_move rfl rfl ?_
 refine g_run rfl rfl rfl ?_
 refine r_move rfl rfl ?_
 refine g_run rfl rfl rfl ?_
 refine r_cmp rfl rfl rfl rfl ?_
 refine r_pickF rfl rfl rfl rfl ?_
 refine awl_nil ?_
 refine x_then ?_
 refine awp_cond rfl (fun hc0 => ?_) (fun hc0 => ?_)
 ·
  exfalso; exact absurd hc0 (by decide)
 ·
  refine awp_skip ?_
  refine x_then ?_
  refine awp_seq ?_
  refine awp_region ?_
  refine r_load1 rfl TG.agg28 rfl ?_
  refine r_move rfl rfl ?_
  refine r_ari 1 rfl rfl rfl rfl rfl ?_
  refine r_index rfl rfl rfl TG.sl28 TG.sz24 (by decide) rfl rfl ?_
  refine r_load1 rfl TG.agg24 rfl ?_
  refine r_assign rfl rfl ?_
  refine r_assign rfl rfl ?_
  refine awl_nil ?_
  refine x_then ?_
  refine awp_ret ?_
  exact ⟨(.inl rfl), _, [], (.two (by first | exact .mk rfl rfl | exact .nil rfl) (by first | exact .mk rfl rfl | exact .nil rfl)), ⟨rfl, rfl⟩, (List.nil_sublist _), (by simp)⟩
theorem awake1_3 : AC Tryd.prog 32 [.v (.int .u64 3), .cp [list3]] [] (fun r n => n = [] ∧ r = atR (look3 3)) := by
 refine ac_of_awp (rs := [3, 4]) (nt := 16) Tryd.func32 rfl rfl rfl rfl (fun w0 C0 hq => ?_)
 refine awp_seq ?_
 refine awp_region ?_
 refine r_assign rfl rfl ?_
 refine r_assign rfl rfl ?_
 refine awl_nil ?_
 refine x_then ?_
 refine awp_seq ?_
 refine awp_seq ?_
 refine awp_region ?_
 refine r_move rfl rfl ?_
 refine r_cmp rfl rfl rfl rfl ?_
 refine r_move rfl rfl ?_
 refine g_run rfl rfl rfl ?_
 refine r_move rfl rfl ?_
 refine g_run rfl rfl rfl ?_
 refine r_cmp rfl rfl rfl rfl ?_
 refine r_pickF rfl rfl rfl rfl ?_
 refine awl_nil ?_
 refine x_then ?_
 refine awp_cond rfl (fun hc0 => ?_) (fun hc0 => ?_)
 ·
  exfalso; exact absurd hc0 (by decide)
 ·
  refine awp_skip ?_
  refine x_then ?_
  refine awp_seq ?_
  refine awp_region ?_
  refine r_load1 rfl TG.agg28 rfl ?_
  refine r_move rfl rfl ?_
  refine r_ari 2 rfl rfl rfl rfl rfl ?_
  refine r_index rfl rfl rfl TG.sl28 TG.sz24 (by decide) rfl rfl ?_
  refine r_load1 rfl TG.agg24 rfl ?_
  refine r_assign rfl rfl ?_
  refine r_assign rfl rfl ?_
  refine awl_nil ?_
  refine x_then ?_
  refine awp_ret ?_
  exact ⟨(.inl rfl), _, [], (.two (by first | exact .mk rfl rfl | exact .nil rfl) (by first | exact .mk rfl rfl | exact .nil rfl)), ⟨rfl, rfl⟩, (List.nil_sublist _), (by simp)⟩
theorem awake2_ok (s : ByteArray) (d : List UInt8) : AC Tryd.prog 33 [strA s, bts d] [] (fun r n => n = [] ∧ r = boolA (d.length == 1)) := by
 refine ac_of_awp (rs := [4]) (nt := 8) Tryd.func33 rfl rfl rfl rfl (fun w0 C0 hq => ?_)
 refine awp_seq ?_
 refine awp_region ?_
 refine r_assign rfl rfl ?_
 refine awl_nil ?_
 refine x_then ?_
 refine awp_seq ?_
 refine awp_region ?_
 refine r_move rfl rfl ?_
 refine r_lenS rfl rfl TG.sl22 rfl ?_
 refine r_cmp rfl rfl rfl rfl ?_
 refine r_assign rfl rfl ?_
 refine awl_nil ?_
 refine x_then ?_
 refine awp_ret ?_
 exact ⟨(.inl rfl), _, [], (.one (by first | exact .mk rfl rfl | exact .nil rfl)), ⟨rfl, by simp only [u8s_length]; show AV.v (.bool ((d.length : Int) == 1)) = AV.v (.bool (d.length == 1)); rw [show ((d.length : Int) == 1) = (d.length == 1) from by rw [Bool.eq_iff_iff]; simp; omega]⟩, (List.nil_sublist _), (by simp)⟩
theorem plan3_ok : AC Tryd.prog 11 [numsA [1, 2, 3], .fn 32 [.cp [list3]], .fn 33 []] [] (fun r n => n = [] ∧ r = choicesA [⟨sa66, 2, true, dx66⟩, ⟨sb66, 0, false, []⟩]) := by
  rw [← plan3]
  refine plan_ok [1, 2, 3] look3 (fun _ d => d.length == 1) (by simp) (fun m hm fs hl => ?_) TG.en32 (fun m hm => ?_) TG.en33 (fun s d _ => awake2_ok s d) (by rw [best3]; simp) (fun s hs => ?_)
  · unfold look3 at hl
    split at hl
    · cases hl; simp [dx66]
    · split at hl
      · cases hl; simp [dx66, dy66]
      · split at hl
        · cases hl; simp [dy66]
        · cases hl
  · simp only [List.mem_cons, List.mem_nil_iff, or_false] at hm
    rcases hm with rfl | rfl | rfl
    · exact awake1_1
    · exact awake1_2
    · exact awake1_3
  · rw [best3] at hs
    simp at hs
    rcases hs with rfl | rfl
    · simp [sa66, ByteArray.size, maxLen]
    · simp [sb66, ByteArray.size, maxLen]
theorem awake66_ok : AC Tryd.prog 6 [] [] (fun r n => n = [] ∧ r = boolA true) := by
 refine ac_of_awp (rs := [0]) (nt := 100) Tryd.func6 rfl rfl rfl rfl (fun w0 C0 hq => ?_)
 refine awp_seq ?_
 refine awp_region ?_
 refine r_assign rfl rfl ?_
 refine awl_nil ?_
 refine x_then ?_
 refine awp_seq ?_
 refine awp_region ?_
 refine r_lit 7 (parts := [(0, .const ((Go.Value.int Go.IntKind.u8 120)))]) rfl TG.sl22 TG.sz5 TG.zraw5 rfl rfl rfl rfl rfl rfl rfl ?_
 refine r_convBB hq rfl 7 rfl (by simp [chunks]) TG.sl22 TG.un5 rfl ?_
 refine r_lit 9 (parts := [(0, .const ((Go.Value.int Go.IntKind.u8 108))), (1, .const ((Go.Value.int Go.IntKind.u8 111))), (2, .const ((Go.Value.int Go.IntKind.u8 99))), (3, .const ((Go.Value.int Go.IntKind.u8 107))), (4, .const ((Go.Value.int Go.IntKind.u8 101))), (5, .const ((Go.Value.int Go.IntKind.u8 100)))]) rfl TG.sl22 TG.sz5 TG.zraw5 rfl rfl rfl rfl rfl rfl rfl ?_
 refine r_convBB hq rfl 9 rfl (by simp [chunks]) TG.sl22 TG.un5 rfl ?_
 refine r_assign rfl rfl ?_
 refine r_assign rfl rfl ?_
 refine awl_nil ?_
 refine x_then ?_
 refine awp_seq ?_
 refine awp_region ?_
 refine r_move rfl rfl ?_
 refine r_build (parts := [(0, .const ((Go.Value.string { data := #[97] }))), (1, .tmp 11)]) rfl TG.pl26 TG.zero26 rfl rfl rfl ?_
 refine r_lit 13 (parts := [(0, .tmp 12)]) rfl TG.sl24 TG.sz26 TG.zraw26 rfl rfl rfl rfl rfl rfl rfl ?_
 refine r_move rfl rfl ?_
 refine r_build (parts := [(0, .const ((Go.Value.string { data := #[98] }))), (1, .tmp 14)]) rfl TG.pl26 TG.zero26 rfl rfl rfl ?_
 refine r_move rfl rfl ?_
 refine r_build (parts := [(0, .const ((Go.Value.string { data := #[97] }))), (1, .tmp 16)]) rfl TG.pl26 TG.zero26 rfl rfl rfl ?_
 refine r_lit 18 (parts := [(0, .tmp 15), (1, .tmp 17)]) rfl TG.sl24 TG.sz26 TG.zraw26 rfl rfl rfl rfl rfl rfl rfl ?_
 refine r_move rfl rfl ?_
 refine r_build (parts := [(0, .const ((Go.Value.string { data := #[97] }))), (1, .tmp 19)]) rfl TG.pl26 TG.zero26 rfl rfl rfl ?_
 refine r_move rfl rfl ?_
 refine r_build (parts := [(0, .const ((Go.Value.string { data := #[98] }))), (1, .tmp 21)]) rfl TG.pl26 TG.zero26 rfl rfl rfl ?_
 refine r_lit 23 (parts := [(0, .tmp 20), (1, .tmp 22)]) rfl TG.sl24 TG.sz26 TG.zraw26 rfl rfl rfl rfl rfl rfl rfl ?_
 refine r_lit 24 (parts := [(0, .tmp 13), (1, .tmp 18), (2, .tmp 23)]) rfl TG.sl28 TG.sz24 TG.zraw24 rfl rfl rfl rfl rfl rfl rfl ?_
 refine r_alloc TG.zero28 rfl (fun b3 => ?_)
 refine r_store 0 rfl rfl rfl TG.sz28 rfl rfl rfl ?_
 refine awl_nil ?_
 refine x_then ?_
 refine awp_seq ?_
 refine awp_region ?_
 refine r_lit 25 (parts := [(0, .const ((Go.Value.int Go.IntKind.u64 1))), (1, .const ((Go.Value.int Go.IntKind.u64 2))), (2, .const ((Go.Value.int Go.IntKind.u64 3)))]) rfl TG.sl46 TG.sz47 TG.zraw47 rfl rfl rfl rfl rfl rfl rfl ?_
 refine awl_imp (imp_commit 0 3 rfl rfl rfl rfl) ?_
 refine r_makeFunc rfl (.cons (.ev rfl rfl) .nil) rfl ?_
 refine r_call0 hq rfl rfl (.cons (.ev rfl rfl) (.cons (.ev rfl rfl) (.cons (.ev rfl rfl) .nil))) (plan3_ok) rfl TG.en11 rfl (fun r hr => ?_)
 obtain rfl := hr
 refine r_assign rfl rfl ?_
 refine awl_nil ?_
 refine x_then ?_
 refine awp_seq ?_
 refine awp_region ?_
 refine r_move rfl rfl ?_
 refine r_call0 hq rfl rfl (.cons (.ev rfl rfl) .nil) (sfiles_ok [⟨sa66, 2, true, dx66⟩, ⟨sb66, 0, false, []⟩] (by simp) (fun c hc => by simp at hc; rcases hc with rfl | rfl <;> simp [sa66, sb66, dx66, ByteArray.size])) rfl TG.en15 rfl (fun r hr => ?_)
 obtain rfl := hr
 rw [files3]
 refine r_move rfl rfl ?_
 refine r_call0 hq rfl rfl (.cons (.ev rfl rfl) .nil) (slost_ok [⟨sa66, 2, true, dx66⟩, ⟨sb66, 0, false, []⟩] (by simp) (fun c hc => by simp at hc; rcases hc with rfl | rfl <;> simp [sa66, sb66, dx66, ByteArray.size])) rfl TG.en16 rfl (fun r hr => ?_)
 obtain rfl := hr
 rw [lost3]
 refine r_assign rfl rfl ?_
 refine r_assign rfl rfl ?_
 refine awl_nil ?_
 refine x_then ?_
 refine awp_seq ?_
 refine awp_region ?_
 refine r_move rfl rfl ?_
 refine r_lenS rfl rfl TG.sl48 rfl ?_
 refine r_cmp rfl rfl rfl rfl ?_
 refine r_move rfl rfl ?_
 refine g_run rfl rfl (by first | rfl | decide | simp) ?_
 refine r_move rfl rfl ?_
 refine g_run rfl rfl (by first | rfl | decide | simp) ?_
 refine r_index rfl rfl rfl TG.sl48 TG.sz63 (by decide) rfl rfl ?_
 refine g_run rfl rfl (by first | rfl | decide | simp) ?_
 refine r_fieldcp rfl TG.f63_0 TG.sz9 rfl ?_
 refine g_run rfl rfl (by first | rfl | decide | simp) ?_
 refine r_load1 rfl TG.agg9 rfl ?_
 refine g_run rfl rfl (by first | rfl | decide | simp) ?_
 refine r_str2 rfl rfl rfl rfl ?_
 refine r_pickT rfl (by first | rfl | decide | simp) rfl rfl ?_
 refine r_move rfl rfl ?_
 refine g_run rfl rfl (by first | rfl | decide | simp) ?_
 refine r_move rfl rfl ?_
 refine g_run rfl rfl (by first | rfl | decide | simp) ?_
 refine r_index rfl rfl rfl TG.sl48 TG.sz63 (by decide) rfl rfl ?_
 refine g_run rfl rfl (by first | rfl | decide | simp) ?_
 refine r_fieldcp rfl TG.f63_1 TG.sz47 rfl ?_
 refine g_run rfl rfl (by first | rfl | decide | simp) ?_
 refine r_load1 rfl TG.agg47 rfl ?_
 refine g_run rfl rfl (by first | rfl | decide | simp) ?_
 refine r_cmp rfl rfl rfl rfl ?_
 refine r_pickT rfl (by first | rfl | decide | simp) rfl rfl ?_
 refine r_move rfl rfl ?_
 refine g_run rfl rfl (by first | rfl | decide | simp) ?_
 refine r_move rfl rfl ?_
 refine g_run rfl rfl (by first | rfl | decide | simp) ?_
 refine r_index rfl rfl rfl TG.sl48 TG.sz63 (by decide) rfl rfl ?_
 refine g_run rfl rfl (by first | rfl | decide | simp) ?_
 refine r_fieldcp rfl TG.f63_2 TG.sz4 rfl ?_
 refine g_run rfl rfl (by first | rfl | decide | simp) ?_
 refine r_load1 rfl TG.agg4 rfl ?_
 refine r_pickT rfl (by first | rfl | decide | simp) rfl rfl ?_
 refine r_move rfl rfl ?_
 refine g_run rfl rfl (by first | rfl | decide | simp) ?_
 refine r_move rfl rfl ?_
 refine g_run rfl rfl (by first | rfl | decide | simp) ?_
 refine r_index rfl rfl rfl TG.sl48 TG.sz63 (by decide) rfl rfl ?_
 refine g_run rfl rfl (by first | rfl | decide | simp) ?_
 refine r_fieldcp rfl TG.f63_3 TG.sz22 rfl ?_
 refine g_run rfl rfl (by first | rfl | decide | simp) ?_
 refine r_load1 rfl TG.agg22 rfl ?_
 refine g_run rfl rfl (by first | rfl | decide | simp) ?_
 refine r_convBS [120] rfl rfl TG.sl22 TG.un5 TG.un9 rfl ?_
 refine g_run rfl rfl (by first | rfl | decide | simp) ?_
 refine r_str2 rfl rfl rfl rfl ?_
 refine r_pickT rfl (by first | rfl | decide | simp) rfl rfl ?_
 refine r_move rfl rfl ?_
 refine g_run rfl rfl (by first | rfl | decide | simp) ?_
 refine r_move rfl rfl ?_
 refine g_run rfl rfl (by first | rfl | decide | simp) ?_
 refine r_index rfl rfl rfl TG.sl48 TG.sz63 (by decide) rfl rfl ?_
 refine g_run rfl rfl (by first | rfl | decide | simp) ?_
 refine r_fieldcp rfl TG.f63_2 TG.sz4 rfl ?_
 refine g_run rfl rfl (by first | rfl | decide | simp) ?_
 refine r_load1 rfl TG.agg4 rfl ?_
 refine g_run rfl rfl (by first | rfl | decide | simp) ?_
 refine r_not rfl rfl ?_
 refine r_pickT rfl (by first | rfl | decide | simp) rfl rfl ?_
 refine r_move rfl rfl ?_
 refine g_run rfl rfl (by first | rfl | decide | simp) ?_
 refine r_move rfl rfl ?_
 refine g_run rfl rfl (by first | rfl | decide | simp) ?_
 refine r_index rfl rfl rfl TG.sl48 TG.sz63 (by decide) rfl rfl ?_
 refine g_run rfl rfl (by first | rfl | decide | simp) ?_
 refine r_fieldcp rfl TG.f63_1 TG.sz47 rfl ?_
 refine g_run rfl rfl (by first | rfl | decide | simp) ?_
 refine r_load1 rfl TG.agg47 rfl ?_
 refine g_run rfl rfl (by first | rfl | decide | simp) ?_
 refine r_cmp rfl rfl rfl rfl ?_
 refine r_pickT rfl (by first | rfl | decide | simp) rfl rfl ?_
 refine r_move rfl rfl ?_
 refine g_run rfl rfl (by first | rfl | decide | simp) ?_
 refine r_move rfl rfl ?_
 refine g_run rfl rfl (by first | rfl | decide | simp) ?_
 refine r_lenS rfl rfl TG.sl24 rfl ?_
 refine g_run rfl rfl (by first | rfl | decide | simp) ?_
 refine r_cmp rfl rfl rfl rfl ?_
 refine r_pickT rfl (by first | rfl | decide | simp) rfl rfl ?_
 refine r_move rfl rfl ?_
 refine g_run rfl rfl (by first | rfl | decide | simp) ?_
 refine r_move rfl rfl ?_
 refine g_run rfl rfl (by first | rfl | decide | simp) ?_
 refine r_index rfl rfl rfl TG.sl24 TG.sz26 (by decide) rfl rfl ?_
 refine g_run rfl rfl (by first | rfl | decide | simp) ?_
 refine r_fieldcp rfl TG.f26_0 TG.sz9 rfl ?_
 refine g_run rfl rfl (by first | rfl | decide | simp) ?_
 refine r_load1 rfl TG.agg9 rfl ?_
 refine g_run rfl rfl (by first | rfl | decide | simp) ?_
 refine r_str2 rfl rfl rfl rfl ?_
 refine r_pickT rfl (by first | rfl | decide | simp) rfl rfl ?_
 refine r_move rfl rfl ?_
 refine g_run rfl rfl (by first | rfl | decide | simp) ?_
 refine r_move rfl rfl ?_
 refine g_run rfl rfl (by first | rfl | decide | simp) ?_
 refine r_lenS rfl rfl TG.sl54 rfl ?_
 refine g_run rfl rfl (by first | rfl | decide | simp) ?_
 refine r_cmp rfl rfl rfl rfl ?_
 refine r_pickT rfl (by first | rfl | decide | simp) rfl rfl ?_
 refine r_move rfl rfl ?_
 refine g_run rfl rfl (by first | rfl | decide | simp) ?_
 refine r_move rfl rfl ?_
 refine g_run rfl rfl (by first | rfl | decide | simp) ?_
 refine r_index rfl rfl rfl TG.sl54 TG.sz9 (by decide) rfl rfl ?_
 refine g_run rfl rfl (by first | rfl | decide | simp) ?_
 refine r_load1 rfl TG.agg9 rfl ?_
 refine g_run rfl rfl (by first | rfl | decide | simp) ?_
 refine r_str2 rfl rfl rfl rfl ?_
 refine r_pickT rfl (by first | rfl | decide | simp) rfl rfl ?_
 refine r_assign rfl rfl ?_
 refine awl_nil ?_
 refine x_then ?_
 refine awp_ret ?_
 exact ⟨(.inl rfl), _, [], (.one (by first | exact .mk rfl rfl | exact .nil rfl)), ⟨rfl, by first | rfl | simp [SV.av]⟩, (List.nil_sublist _), (by simp)⟩
end Go.Proofs.YtcbhhjahjnlfhaaDoor.A
namespace Go.Proofs.YtcbhhjahjnlfhaaDoor.A
open Go Go.RowKit Go.Maps Go.Sort
set_option linter.unusedVariables false
set_option linter.unusedSimpArgs false
set_option linter.unusedSectionVars false
def rowFs (fs : List File) : List AV := [files fs]
def GrowF (tF : Nat) (th : List (List File)) (v : Value) (bf : List OE) : Prop :=
  (th = [] ∧ v = .slice none 0 0 ∧ bf = []) ∨ (th ≠ [] ∧ ∃ g cap, v = .slice (some ⟨g, 0, none⟩) (th.map rowFs).length cap ∧ bf = [⟨g, true, .buf 1 (th.map rowFs) cap tF⟩])
def Has (m : List (Int × Blk)) (f : List File) : Prop := okFs f = true ∧ ∀ (k : Nat) (b : Blk), (diskF f)[k]? = some b → mget m (k : Int) = some b
inductive Runs : List Deed → List (List File) → List Deed → List (List File) → Prop where
  | nil (pre : List Deed) (a : List (List File)) : Runs pre a [] a
  | row {pre : List Deed} {a b : List (List File)} {d : Deed} {ds : List Deed} (h : d.kind ≠ 2) (r : Runs (pre ++ [d]) a ds b) : Runs pre a (d :: ds) b
  | wait {pre : List Deed} {a b : List (List File)} {d : Deed} {ds : List Deed} {f : List File} (h : d.kind = 2) (hf : Has (leftM (wsF pre)) f) (r : Runs (pre ++ [d]) (a ++ [f]) ds b) : Runs pre a (d :: ds) b
theorem Runs.cons {pre : List Deed} {a b : List (List File)} {d : Deed} {ds : List Deed} (h : Runs pre a (d :: ds) b) :
    (d.kind ≠ 2 ∧ Runs (pre ++ [d]) a ds b) ∨ (d.kind = 2 ∧ ∃ f, Has (leftM (wsF pre)) f ∧ Runs (pre ++ [d]) (a ++ [f]) ds b) := by
  cases h with
  | row h r => exact .inl ⟨h, r⟩
  | wait h hf r => exact .inr ⟨h, _, hf, r⟩
theorem Runs.end {pre : List Deed} {a b : List (List File)} (h : Runs pre a [] b) : a = b := by cases h; rfl
theorem Runs.app {pre : List Deed} {a b c : List (List File)} {ds es : List Deed} (h : Runs pre a ds b) (k : Runs (pre ++ ds) b es c) : Runs pre a (ds ++ es) c := by
  induction h with
  | nil pre a => simpa using k
  | row h r ih => exact .row h (ih (by simpa using k))
  | wait h hf r ih => exact .wait h hf (ih (by simpa using k))
theorem runs_rows (a : List (List File)) : ∀ (ds : List Deed) (pre : List Deed), (∀ d ∈ ds, d.kind ≠ 2) → Runs pre a ds a
  | [], pre, _ => .nil _ _
  | d :: r, pre, h => .row (h d (by simp)) (runs_rows a r _ (fun x hx => h x (List.mem_cons_of_mem _ hx)))
theorem rows_kind {D : List Blk} : ∀ d ∈ rowsF D, d.kind ≠ 2 := fun d hd => by
  obtain ⟨ws, _, rfl⟩ := List.mem_map.1 hd
  exact (by decide : (1 : Int) ≠ 2)
theorem rowsO_kind {l : List File} : ∀ d ∈ rowsO l, d.kind ≠ 2 := fun d hd => by
  unfold rowsO at hd
  split at hd
  · exact rows_kind d hd
  · cases hd
def momT (key : UInt8) (l : List File) (n : Nat) : List (List File) := (List.range n).map (stepTo (lkG key) l)
theorem momT_snoc (key : UInt8) (l : List File) (n : Nat) : momT key l (n + 1) = momT key l n ++ [stepTo (lkG key) l n] := by simp [momT, List.range_succ]
theorem has_step {l : List File} (hok : okFs l = true) (key : UInt8) {each : Int} (n : Nat) : Has (leftM (wsF (rowsF (diskF l) ++ evsF (evR key each l) n))) (stepTo (lkG key) l n) :=
  ⟨okFs_lock hok key n, fun k b h => left_host (st := stepTo (lkG key) l) (pre := fun _ => eachF each) rfl (fun i => rfl) (fun i => okFs_lock hok key i) n k b h⟩
theorem runs_host {l : List File} (hok : okFs l = true) (key : UInt8) : ∀ n, Runs [] [] (rowsF (diskF l) ++ evsF (evR key 5 l) n) (momT key l n)
  | 0 => by
    rw [show evsF (evR key 5 l) 0 = [] from rfl, List.append_nil]
    exact runs_rows [] _ _ rows_kind
  | n + 1 => by
    rw [show evsF (evR key 5 l) (n + 1) = evsF (evR key 5 l) n ++ evR key 5 l n from rfl, ← List.append_assoc]
    refine (runs_host hok key n).app ?_
    rw [List.nil_append, momT_snoc]
    have e : evR key 5 l n = ⟨2, [], 5⟩ :: rowsO (stepTo (lkG key) l (n + 1)) := rfl
    rw [e]
    exact .wait rfl (has_step hok key n) (runs_rows _ _ _ rowsO_kind)
def setU (l : List UInt8) : List (Int × Bool) := l.foldl (fun m c => mset m (c.toNat : Int) true) []
def wildF (l : List UInt8) : Bool := decide (16 ≤ l.length) && decide (3 * min l.length 64 ≤ 4 * (setU l).length)
theorem setU_snoc (l : List UInt8) (c : UInt8) : setU (l ++ [c]) = mset (setU l) (c.toNat : Int) true := by unfold setU; rw [List.foldl_append]; rfl
theorem setU_nd (l : List UInt8) : ((setU l).map (·.1)).Nodup := by
  have : ∀ (l : List UInt8) (m : List (Int × Bool)), (m.map (·.1)).Nodup → ((l.foldl (fun m c => mset m (c.toNat : Int) true) m).map (·.1)).Nodup := by
    intro l
    induction l with
    | nil => intro m h; exact h
    | cons c r ih => intro m h; exact ih _ (mset_nodup h)
  exact this l [] (by simp)
theorem setU_mem (x : Int) (l : List UInt8) : x ∈ (setU l).map (·.1) ↔ ∃ c ∈ l, (c.toNat : Int) = x := by
  have : ∀ (l : List UInt8) (m : List (Int × Bool)), x ∈ (l.foldl (fun m c => mset m (c.toNat : Int) true) m).map (·.1) ↔ x ∈ m.map (·.1) ∨ ∃ c ∈ l, (c.toNat : Int) = x := by
    intro l
    induction l with
    | nil => intro m; simp
    | cons c r ih =>
      intro m
      rw [List.foldl_cons, ih, mset_keys]
      simp only [List.mem_cons, exists_eq_or_imp]
      constructor
      · rintro ((h | h) | h)
        · exact .inr (.inl h.symm)
        · exact .inl h
        · exact .inr (.inr h)
      · rintro (h | h | h)
        · exact .inl (.inr h)
        · exact .inl (.inl h.symm)
        · exact .inr h
  rw [setU, this l []]; simp
theorem setU_le (l : List UInt8) : (setU l).length ≤ l.length := by
  have : ∀ (l : List UInt8) (m : List (Int × Bool)), (l.foldl (fun m c => mset m (c.toNat : Int) true) m).length ≤ m.length + l.length := by
    intro l
    induction l with
    | nil => intro m; simp
    | cons c r ih =>
      intro m
      rw [List.foldl_cons, List.length_cons]
      have h1 := ih (mset m (c.toNat : Int) true)
      have h2 := mset_len (m := m) (k := (c.toNat : Int)) (v := true)
      omega
  have := this l []; simpa [setU] using this
theorem setU_nodup {l : List UInt8} (h : l.Nodup) : (setU l).length = l.length := by
  have hp : ((setU l).map (·.1)).Perm (l.map fun c => (c.toNat : Int)) := by
    refine (List.perm_ext_iff_of_nodup (setU_nd l) ?_).2 fun x => ?_
    · exact List.Pairwise.map _ (fun a b hab e => hab (UInt8.toNat_inj.1 (by omega))) h
    · rw [setU_mem, List.mem_map]
  have := hp.length_eq
  rw [List.length_map, List.length_map] at this
  exact this
theorem setU_one {n : Nat} {v : UInt8} : (setU (List.replicate n v)).length ≤ 1 := by
  have h1 := setU_nd (List.replicate n v)
  have h2 := fun x => setU_mem x (List.replicate n v)
  match hk : setU (List.replicate n v) with
  | [] => simp
  | [_] => simp
  | a :: b :: r =>
    rw [hk] at h1 h2
    have e1 : (v.toNat : Int) = a.1 := by
      obtain ⟨c, hc, e⟩ := (h2 a.1).1 (by simp)
      rw [(List.mem_replicate.1 hc).2] at e; exact e
    have e2 : (v.toNat : Int) = b.1 := by
      obtain ⟨c, hc, e⟩ := (h2 b.1).1 (by simp)
      rw [(List.mem_replicate.1 hc).2] at e; exact e
    simp only [List.map_cons, List.nodup_cons, List.mem_cons, not_or] at h1
    exact absurd (e1.symm.trans e2) h1.1.1
theorem tame_rep {n : Nat} (h : 16 ≤ n) (v : UInt8) : wildF (List.replicate n v) = false := by
  have := setU_one (n := n) (v := v)
  unfold wildF
  rw [List.length_replicate, decide_eq_false (show ¬ 3 * min n 64 ≤ 4 * (setU (List.replicate n v)).length by omega), Bool.and_false]
theorem u8_37 (x : UInt8) : 173 * (37 * x) = x := by
  rw [← UInt8.mul_assoc, show (173 * 37 : UInt8) = 1 by decide, UInt8.one_mul]
theorem lock_inj {key v : UInt8} {i j : Nat} (hi : i < 256) (hj : j < 256) (h : lockB key i v = lockB key j v) : i = j := by
  unfold lockB at h
  have h1 := congrArg (fun x => v ^^^ x) h
  simp only [← UInt8.xor_assoc, UInt8.xor_self, UInt8.zero_xor] at h1
  have h2 : 37 * i.toUInt8 = 37 * j.toUInt8 := by simpa using h1
  have h3 : i.toUInt8 = j.toUInt8 := by rw [← u8_37 i.toUInt8, h2, u8_37]
  have h4 := congrArg UInt8.toNat h3
  simp at h4
  omega
theorem lock_nodup {n : Nat} (hn : n < 256) (v key : UInt8) : (lockF (List.replicate n v) key).Nodup := by
  rw [List.Nodup, List.pairwise_iff_getElem]
  intro i j hi hj hij e
  rw [lockF_len, List.length_replicate] at hi hj
  have e2 : lockB key i v = lockB key j v := by simpa [lockF_def] using e
  have := lock_inj (by omega) (by omega) e2
  omega
theorem wild_lock {n : Nat} (h : 16 ≤ n) (hn : n < 256) (v key : UInt8) : wildF (lockF (List.replicate n v) key) = true := by
  have h1 := setU_nodup (lock_nodup hn v key)
  rw [lockF_len, List.length_replicate] at h1
  unfold wildF
  rw [lockF_len, List.length_replicate, h1, decide_eq_true h, decide_eq_true (by omega)]; rfl
def valC (b : List (ByteArray × Choice)) (n : ByteArray) : Choice := (mget b n).getD ⟨n, 0, false, []⟩
def seenB (s : List (ByteArray × Bool)) (n : ByteArray) : Bool := (mget s n).getD false
theorem stepF_eq (wh : ByteArray → List UInt8 → Bool) (m : Int) (s : List (ByteArray × Bool) × List (ByteArray × Choice)) (f : File) :
    stepF wh m s f = cond (seenB s.1 f.name) s (mset s.1 f.name true, mset s.2 f.name (cond (wh f.name f.data) ⟨f.name, m, true, f.data⟩ (valC s.2 f.name))) := rfl
theorem seen_mset (s : List (ByteArray × Bool)) (k n : ByteArray) : seenB (mset s k true) n = if k = n then true else seenB s n := by
  unfold seenB; rw [mget_mset]; split <;> rfl
theorem val_mset (b : List (ByteArray × Choice)) (k n : ByteArray) (c : Choice) : valC (mset b k c) n = if k = n then c else valC b n := by
  unfold valC; rw [mget_mset]; split <;> rfl
theorem files_val (wh : ByteArray → List UInt8 → Bool) (m : Int) (n : ByteArray) : ∀ (fs : List File) (s : List (ByteArray × Bool) × List (ByteArray × Choice)),
    valC (fs.foldl (stepF wh m) s).2 n = if seenB s.1 n = true then valC s.2 n else match fs.find? (fun f => decide (f.name = n)) with | some f => cond (wh n f.data) ⟨n, m, true, f.data⟩ (valC s.2 n) | none => valC s.2 n
  | [], s => by simp
  | f :: r, s => by
    rw [List.foldl_cons, files_val wh m n r, stepF_eq]
    cases hs : seenB s.1 f.name with
    | true =>
      simp only [cond_true]
      by_cases hn : f.name = n
      · subst hn; simp [hs]
      · simp [hn]
    | false =>
      simp only [cond_false, seen_mset, val_mset]
      by_cases hn : f.name = n
      · subst hn; simp [hs]
      · simp [hn]
theorem files_keys (wh : ByteArray → List UInt8 → Bool) (m : Int) (x : ByteArray) : ∀ (fs : List File) (s : List (ByteArray × Bool) × List (ByteArray × Choice)), (∀ y, seenB s.1 y = true → y ∈ s.2.map (·.1)) →
    (x ∈ (fs.foldl (stepF wh m) s).2.map (·.1) ↔ x ∈ s.2.map (·.1) ∨ ∃ f ∈ fs, f.name = x)
  | [], s, _ => by simp
  | f :: r, s, h => by
    rw [List.foldl_cons, stepF_eq]
    cases hs : seenB s.1 f.name with
    | true =>
      rw [cond_true, files_keys wh m x r s h]
      have := h _ hs
      constructor
      · rintro (h1 | ⟨g, h1, h2⟩)
        · exact Or.inl h1
        · exact Or.inr ⟨g, List.mem_cons_of_mem _ h1, h2⟩
      · rintro (h1 | ⟨g, h1, h2⟩)
        · exact Or.inl h1
        · rcases List.mem_cons.1 h1 with rfl | h1
          · subst h2; exact Or.inl this
          · exact Or.inr ⟨g, h1, h2⟩
    | false =>
      rw [cond_false, files_keys wh m x r _ (fun y hy => ?_)]
      · simp only [mset_keys]
        constructor
        · rintro ((h1 | h1) | ⟨g, h1, h2⟩)
          · exact Or.inr ⟨f, by simp, h1.symm⟩
          · exact Or.inl h1
          · exact Or.inr ⟨g, List.mem_cons_of_mem _ h1, h2⟩
        · rintro (h1 | ⟨g, h1, h2⟩)
          · exact Or.inl (Or.inr h1)
          · rcases List.mem_cons.1 h1 with rfl | h1
            · exact Or.inl (Or.inl h2.symm)
            · exact Or.inr ⟨g, h1, h2⟩
      · simp only [seen_mset] at hy
        rw [mset_keys]
        split at hy
        · rename_i e; exact Or.inl e.symm
        · exact Or.inr (h y hy)
theorem best_keysG (look : Int → Option (List File)) (wh : ByteArray → List UInt8 → Bool) (x : ByteArray) : ∀ (nums : List Int) (b : List (ByteArray × Choice)),
    (x ∈ (nums.foldl (stepPl look wh) b).map (·.1) ↔ x ∈ b.map (·.1) ∨ ∃ m ∈ nums, ∃ fs, look m = some fs ∧ ∃ f ∈ fs, f.name = x)
  | [], b => by simp
  | m :: r, b => by
    rw [List.foldl_cons, best_keysG look wh x r]
    have h1 : x ∈ (stepPl look wh b m).map (·.1) ↔ x ∈ b.map (·.1) ∨ ∃ fs, look m = some fs ∧ ∃ f ∈ fs, f.name = x := by
      unfold stepPl
      cases look m with
      | none => simp
      | some fs => simp only; rw [files_keys wh m x fs _ (fun y hy => by simp [seenB, mget] at hy)]; simp
    rw [h1]
    simp only [List.mem_cons, exists_eq_or_imp, or_assoc]
def choiceG (look : Int → Option (List File)) (wh : ByteArray → List UInt8 → Bool) (n : ByteArray) (c : Choice) (m : Int) : Choice :=
  match look m with
  | some fs => match lookF fs n with
    | some d => cond (wh n d) ⟨n, m, true, d⟩ c
    | none => c
  | none => c
theorem best_valG (look : Int → Option (List File)) (wh : ByteArray → List UInt8 → Bool) (n : ByteArray) : ∀ (nums : List Int) (b : List (ByteArray × Choice)),
    valC (nums.foldl (stepPl look wh) b) n = nums.foldl (choiceG look wh n) (valC b n)
  | [], b => rfl
  | m :: r, b => by
    rw [List.foldl_cons, List.foldl_cons, best_valG look wh n r]
    congr 1
    unfold stepPl choiceG
    cases look m with
    | none => rfl
    | some fs => simp only; rw [files_val]; simp only [seenB, mget, Option.getD_none, Bool.false_eq_true, if_false, lookF]; cases fs.find? (fun f => decide (f.name = n)) <;> rfl
theorem chosen_get (n : ByteArray) : ∀ (l : List Choice) (m : List (ByteArray × Choice)), mget (l.foldl stepC m) n = match mget m n with | some c => some c | none => l.find? (fun c => c.whole && decide (c.name = n))
  | [], m => by simp; cases mget m n <;> rfl
  | c :: r, m => by
    rw [List.foldl_cons, chosen_get n r]
    unfold stepC
    cases hb : (!(mget m c.name).isSome && c.whole) with
    | false =>
      rw [cond_false]
      cases hm : mget m n with
      | some d => rfl
      | none =>
        simp only [List.find?_cons]
        have : (c.whole && decide (c.name = n)) = false := by
          by_cases hn : c.name = n
          · rw [hn, hm] at hb; simp at hb; simp [hb]
          · simp [hn]
        rw [this]
    | true =>
      rw [cond_true, mget_mset]
      simp only [Bool.and_eq_true, Bool.not_eq_true'] at hb
      by_cases hn : c.name = n
      · have hm : mget m n = none := by cases h : mget m n with | none => rfl | some d => rw [hn, h] at hb; simp at hb
        simp [hn, hm, hb.2]
      · simp only [if_neg hn]
        cases mget m n with
        | some d => rfl
        | none => simp [hn]
theorem chosen_find (l : List Choice) (n : ByteArray) : mget (chosen l) n = l.find? (fun c => c.whole && decide (c.name = n)) := chosen_get n l []
def lookT (key : UInt8) (l : List File) (m : Int) : Option (List File) := if 1 ≤ m ∧ m ≤ l.length + 1 then some (stepTo (lkG key) l (m - 1).toNat) else none
def numsT (n : Nat) : List Int := (List.range n).map fun i => ((i + 1 : Nat) : Int)
def choT (l : List File) : List Choice := l.mapIdx fun j f => ⟨f.name, ((j + 1 : Nat) : Int), true, f.data⟩
theorem lookT_at (key : UInt8) (l : List File) {i : Nat} (h : i ≤ l.length) : lookT key l ((i + 1 : Nat) : Int) = some (stepTo (lkG key) l i) := by
  unfold lookT
  rw [if_pos ⟨by omega, by omega⟩, show (((i + 1 : Nat) : Int) - 1).toNat = i by omega]
theorem step_names (key : UInt8) (l : List File) (i : Nat) : (stepTo (lkG key) l i).map (·.name) = l.map (·.name) := by
  apply List.ext_getElem?
  intro j
  rw [List.getElem?_map, stepTo_get, List.getElem?_map, Option.map_map]
  congr 1; funext f
  show (if j < i then lkG key f else f).name = f.name
  split <;> rfl
theorem step_look {key : UInt8} {l : List File} (hn : (l.map (·.name)).Nodup) {i j : Nat} {f : File} (hf : l[j]? = some f) : lookF (stepTo (lkG key) l i) f.name = some (if j < i then lockF f.data key else f.data) := by
  have h1 : (stepTo (lkG key) l i)[j]? = some (if j < i then lkG key f else f) := by rw [stepTo_get, hf]; rfl
  have h2 := lkf_nd (l := stepTo (lkG key) l i) (by rw [step_names]; exact hn) (List.mem_of_getElem? h1)
  have e1 : (if j < i then lkG key f else f).name = f.name := by split <;> rfl
  have e2 : (if j < i then lkG key f else f).data = if j < i then lockF f.data key else f.data := by split <;> rfl
  rw [e1, e2] at h2; exact h2
theorem mem_numsT {n : Nat} {m : Int} : m ∈ numsT n ↔ ∃ i, i < n ∧ m = ((i + 1 : Nat) : Int) := by
  unfold numsT
  rw [List.mem_map]
  constructor
  · rintro ⟨i, hi, rfl⟩; exact ⟨i, List.mem_range.1 hi, rfl⟩
  · rintro ⟨i, hi, rfl⟩; exact ⟨i, List.mem_range.2 hi, rfl⟩
theorem numsT_snoc (n : Nat) : numsT (n + 1) = numsT n ++ [((n + 1 : Nat) : Int)] := by simp [numsT, List.range_succ]
theorem choT_name (l : List File) : (choT l).map (·.name) = l.map (·.name) := by
  apply List.ext_getElem?
  intro j
  rw [List.getElem?_map, choT, List.getElem?_mapIdx, List.getElem?_map, Option.map_map]
  rfl
theorem choT_get {l : List File} {j : Nat} {f : File} (h : l[j]? = some f) : (choT l)[j]? = some ⟨f.name, ((j + 1 : Nat) : Int), true, f.data⟩ := by rw [choT, List.getElem?_mapIdx, h]; rfl
theorem choT_inv {l : List File} {j : Nat} {c : Choice} (h : (choT l)[j]? = some c) : ∃ f, l[j]? = some f ∧ c = ⟨f.name, ((j + 1 : Nat) : Int), true, f.data⟩ := by
  rw [choT, List.getElem?_mapIdx] at h
  obtain ⟨f, hf, e⟩ := Option.map_eq_some_iff.1 h
  exact ⟨f, hf, e.symm⟩
theorem choT_len (l : List File) : (choT l).length = l.length := by simp [choT]
structure RanOk (key : UInt8) (l : List File) : Prop where
  ok : okFs l = true
  sorted : SortedS (l.map (·.name))
  tame : ∀ f ∈ l, wildF f.data = false
  wild : ∀ f ∈ l, wildF (lockF f.data key) = true
  small : ∀ f ∈ l, f.data.length ≤ 79
abbrev whT : ByteArray → List UInt8 → Bool := fun _ d => !wildF d
theorem ran_fold {key : UInt8} {l : List File} (h : RanOk key l) {j : Nat} {f : File} (hf : l[j]? = some f) : ∀ t, t ≤ l.length + 1 → (numsT t).foldl (choiceG (lookT key l) whT f.name) ⟨f.name, 0, false, []⟩ = if t = 0 then ⟨f.name, 0, false, []⟩ else ⟨f.name, ((min t (j + 1) : Nat) : Int), true, f.data⟩
  | 0, _ => rfl
  | t + 1, ht => by
    have hn := (okFs_un h.ok).2.2
    have hm := List.mem_of_getElem? hf
    rw [numsT_snoc, List.foldl_append, ran_fold h hf t (by omega)]
    show choiceG (lookT key l) whT f.name _ ((t + 1 : Nat) : Int) = _
    rw [if_neg (show ¬ t + 1 = 0 by omega)]
    unfold choiceG
    rw [lookT_at key l (by omega)]
    simp only
    rw [step_look hn hf]
    simp only
    by_cases hjt : j < t
    · rw [if_pos hjt, whT, h.wild f hm]
      simp only [Bool.not_true, cond_false]
      rw [if_neg (show ¬ t = 0 by omega), show min t (j + 1) = min (t + 1) (j + 1) by omega]
    · rw [if_neg hjt, whT, h.tame f hm]
      simp only [Bool.not_false, cond_true]
      rw [show min (t + 1) (j + 1) = t + 1 by omega]
theorem ran_keys {key : UInt8} {l : List File} (h : RanOk key l) (x : ByteArray) : x ∈ (bestOf (lookT key l) whT (numsT (l.length + 1))).map (·.1) ↔ x ∈ l.map (·.name) := by
  unfold bestOf
  rw [best_keysG]
  simp only [List.map_nil, List.not_mem_nil, false_or]
  constructor
  · rintro ⟨m, hm, fs, hl, f, hf, rfl⟩
    obtain ⟨i, hi, rfl⟩ := mem_numsT.1 hm
    rw [lookT_at key l (by omega)] at hl
    cases hl
    rw [← step_names key l i]
    exact List.mem_map.2 ⟨f, hf, rfl⟩
  · intro hx
    refine ⟨((0 + 1 : Nat) : Int), mem_numsT.2 ⟨0, by omega, rfl⟩, _, lookT_at key l (Nat.zero_le _), ?_⟩
    rw [← step_names key l 0] at hx
    obtain ⟨f, hf, e⟩ := List.mem_map.1 hx
    exact ⟨f, hf, e⟩
theorem ran_plan {key : UInt8} {l : List File} (h : RanOk key l) : planOf (lookT key l) whT (numsT (l.length + 1)) = choT l := by
  have hk : sortB ((bestOf (lookT key l) whT (numsT (l.length + 1))).map (·.1)) = l.map (·.name) :=
    sortedS_ext (sortB_sorted (best_nodup _ _ _)) h.sorted (fun x => by rw [sortB_mem]; exact ran_keys h x)
  unfold planOf
  rw [hk, List.map_map]
  apply List.ext_getElem?
  intro j
  rw [List.getElem?_map]
  cases hf : l[j]? with
  | none => rw [List.getElem?_eq_none (by rw [choT_len]; exact List.getElem?_eq_none_iff.1 hf)]; rfl
  | some f =>
    rw [choT_get hf]
    have hin : f.name ∈ (bestOf (lookT key l) whT (numsT (l.length + 1))).map (·.1) := (ran_keys h _).2 (List.mem_map.2 ⟨f, List.mem_of_getElem? hf, rfl⟩)
    obtain ⟨c, hc⟩ := Option.isSome_iff_exists.1 (mget_some.2 hin)
    have hv := best_valG (lookT key l) whT f.name (numsT (l.length + 1)) []
    rw [show valC ([] : List (ByteArray × Choice)) f.name = ⟨f.name, 0, false, []⟩ from rfl, ran_fold h hf _ (Nat.le_refl _), if_neg (by omega)] at hv
    have hjl := (List.getElem?_eq_some_iff.1 hf).1
    rw [show min (l.length + 1) (j + 1) = j + 1 by omega] at hv
    have e : valC (bestOf (lookT key l) whT (numsT (l.length + 1))) f.name = c := by unfold valC; rw [hc]; rfl
    show some ((mget (bestOf (lookT key l) whT (numsT (l.length + 1))) f.name).getD .zero) = _
    rw [hc]
    exact congrArg some (e.symm.trans hv)
theorem ran_chosen {l : List File} (hn : (l.map (·.name)).Nodup) {j : Nat} {f : File} (hf : l[j]? = some f) : mget (chosen (choT l)) f.name = some ⟨f.name, ((j + 1 : Nat) : Int), true, f.data⟩ := by
  rw [chosen_find]
  cases hq : (choT l).find? (fun c => c.whole && decide (c.name = f.name)) with
  | none =>
    have := List.find?_eq_none.1 hq _ (List.mem_of_getElem? (choT_get hf))
    simp at this
  | some c =>
    have h1 := List.find?_some hq
    obtain ⟨k, hk⟩ := List.getElem?_of_mem (List.mem_of_find?_eq_some hq)
    obtain ⟨g, hg, rfl⟩ := choT_inv hk
    have e : g.name = f.name := by simpa using h1
    have := nodup_get hn (i := k) (j := j) (x := f.name) (by rw [List.getElem?_map, hg, ← e]; rfl) (by rw [List.getElem?_map, hf]; rfl)
    subst this
    rw [hg] at hf; cases hf; rfl
theorem ran_chosen_keys {l : List File} (hn : (l.map (·.name)).Nodup) (x : ByteArray) : x ∈ (chosen (choT l)).map (·.1) ↔ x ∈ l.map (·.name) := by
  constructor
  · intro hx
    obtain ⟨c, hc, rfl, _⟩ := chosen_names _ x hx
    rw [← choT_name]
    exact List.mem_map.2 ⟨c, hc, rfl⟩
  · intro hx
    obtain ⟨f, hf, rfl⟩ := List.mem_map.1 hx
    obtain ⟨j, hj⟩ := List.getElem?_of_mem hf
    exact mget_some.1 (by rw [ran_chosen hn hj]; rfl)
theorem ran_files {l : List File} (h8 : l.length ≤ 8) (hn : (l.map (·.name)).Nodup) (hs : SortedS (l.map (·.name))) : filesOf (choT l) = l := by
  have hk : sortB ((chosen (choT l)).map (·.1)) = l.map (·.name) := sortedS_ext (sortB_sorted (chosen_nodup _)) hs (fun x => by rw [sortB_mem]; exact ran_chosen_keys hn x)
  unfold filesOf
  rw [hk, List.take_of_length_le (by rw [List.length_map]; exact h8), List.map_map]
  apply List.ext_getElem?
  intro j
  rw [List.getElem?_map]
  cases hf : l[j]? with
  | none => rfl
  | some f => show some (⟨f.name, ((mget (chosen (choT l)) f.name).getD .zero).data⟩ : File) = some f; rw [ran_chosen hn hf]; rfl
theorem ran_lost {l : List File} (hn : (l.map (·.name)).Nodup) : lostOf (choT l) = [] := by
  unfold lostOf
  have hk : ((choT l).foldl (stepL (chosen (choT l))) []).map (·.1) = [] := by
    rw [List.eq_nil_iff_forall_not_mem]
    intro s hs
    rcases (lost_keys_aux (chosen (choT l)) (choT l) [] s).1 hs with h | ⟨c, hc, rfl, hg⟩
    · simp at h
    · obtain ⟨j, hj⟩ := List.getElem?_of_mem hc
      obtain ⟨f, hf, rfl⟩ := choT_inv hj
      rw [ran_chosen hn hf] at hg; cases hg
  rw [hk]; simp [sortB]
def nmR (k : Nat) : ByteArray := (⟨#[102]⟩ : ByteArray) ++ ⟨#[97 + k.toUInt8]⟩
def fileR (data : UInt8) (k : Nat) (n : UInt8) : File := ⟨nmR k, List.replicate (16 + n.toNat % 64) (data + k.toUInt8)⟩
def l0F (long : List UInt8) (data : UInt8) : List File := long.mapIdx fun k n => fileR data k n
theorem l0_len (long : List UInt8) (data : UInt8) : (l0F long data).length = long.length := by simp [l0F]
theorem l0_snoc {long : List UInt8} {data n : UInt8} {k : Nat} (h : long[k]? = some n) : l0F (long.take (k + 1)) data = l0F (long.take k) data ++ [fileR data k n] := by
  have hk := (List.getElem?_eq_some_iff.1 h).1
  unfold l0F
  rw [takeS h, List.mapIdx_append]
  simp [Nat.min_eq_left (Nat.le_of_lt hk)]
theorem l0_get {long : List UInt8} {data : UInt8} {k : Nat} {f : File} (h : (l0F long data)[k]? = some f) : ∃ n, long[k]? = some n ∧ f = fileR data k n := by
  rw [l0F, List.getElem?_mapIdx] at h
  obtain ⟨n, hn, e⟩ := Option.map_eq_some_iff.1 h
  exact ⟨n, hn, e.symm⟩
theorem nm_lt : ∀ i j : Nat, i < 4 → j < 4 → i < j → ltS (nmR i) (nmR j) = true := by
  have : ∀ i : Fin 4, ∀ j : Fin 4, i < j → ltS (nmR i) (nmR j) = true := by decide
  intro i j hi hj hij
  exact this ⟨i, hi⟩ ⟨j, hj⟩ hij
theorem nm_named : ∀ i : Nat, i < 4 → namedS (nmR i) = true := by
  have : ∀ i : Fin 4, namedS (nmR i) = true := by decide
  intro i hi
  exact this ⟨i, hi⟩
theorem ran_ok {long : List UInt8} (h4 : long.length ≤ 4) (data key : UInt8) : RanOk key (l0F long data) := by
  have hget : ∀ f ∈ l0F long data, ∃ k n, k < 4 ∧ f = fileR data k n := fun f hf => by
    obtain ⟨k, hk⟩ := List.getElem?_of_mem hf
    obtain ⟨n, hn, e⟩ := l0_get hk
    exact ⟨k, n, by have := (List.getElem?_eq_some_iff.1 hn).1; omega, e⟩
  have hsort : SortedS ((l0F long data).map (·.name)) := by
    unfold SortedS
    rw [List.pairwise_iff_getElem]
    intro i j hi hj hij
    rw [List.length_map, l0_len] at hi hj
    have e : ∀ k (hk : k < ((l0F long data).map (·.name)).length), ((l0F long data).map (·.name))[k] = nmR k := fun k hk => by
      have hk2 : k < (l0F long data).length := by rw [List.length_map] at hk; exact hk
      obtain ⟨n, _, h⟩ := l0_get (List.getElem?_eq_getElem hk2)
      rw [List.getElem_map, h]; rfl
    rw [e, e]
    exact nm_lt i j (by omega) (by omega) hij
  refine ⟨okFs_mk (by rw [l0_len]; omega) (fun f hf => ?_) (sorted_nd hsort), hsort, fun f hf => ?_, fun f hf => ?_, fun f hf => ?_⟩ <;> obtain ⟨k, n, hk, rfl⟩ := hget f hf
  · unfold rightS
    rw [show (fileR data k n).name = nmR k from rfl, nm_named k hk, show (fileR data k n).data.length = 16 + n.toNat % 64 by simp [fileR], decide_eq_true (by omega)]; rfl
  · exact tame_rep (by omega) _
  · exact wild_lock (by omega) (by omega) _ _
  · show (List.replicate _ _).length ≤ 79
    rw [List.length_replicate]; omega
def fillC (v : UInt8) (n j : Nat) : List AV := bcel (List.replicate j v ++ List.replicate (n - j) 0)
theorem fillC_zero (v : UInt8) (n : Nat) : fillC v n 0 = List.replicate n (.v (.int .u8 0)) := by simp [fillC, bcel]
theorem fillC_len {v : UInt8} {n j : Nat} (h : j ≤ n) : (fillC v n j).length = n := by simp [fillC, bcel]; omega
theorem fillC_end (v : UInt8) (n : Nat) : fillC v n n = (u8s (List.replicate n v)).flatten := by rw [bcel_flat, fillC, Nat.sub_self]; simp
theorem fillC_step {v : UInt8} {n j : Nat} (h : j < n) {a b : Nat} (ha : a = j) (hb : b = j + 1) : (fillC v n j).take a ++ [.v (.int .u8 v.toNat)] ++ (fillC v n j).drop b = fillC v n (j + 1) := by
  subst ha; subst hb
  unfold fillC bcel
  rw [show n - a = (n - (a + 1)) + 1 by omega, List.replicate_succ' (n := a), List.replicate_succ (n := n - (a + 1))]
  rw [← List.map_take, ← List.map_drop, List.take_left' (by simp), show List.replicate a v ++ (0 : UInt8) :: List.replicate (n - (a + 1)) 0 = (List.replicate a v ++ [0]) ++ List.replicate (n - (a + 1)) 0 by simp, List.drop_left' (by simp)]
  simp
theorem drop_get {α : Type} {l : List α} {k : Nat} {x : α} (h : l[k]? = some x) : l.drop k = x :: l.drop (k + 1) := by
  have hk := (List.getElem?_eq_some_iff.1 h).1
  rw [List.drop_eq_getElem_cons hk, (List.getElem?_eq_some_iff.1 h).2]
theorem setU_take {l : List UInt8} {k : Nat} {x : UInt8} (h : l[k]? = some x) : setU (l.take (k + 1)) = mset (setU (l.take k)) (x.toNat : Int) true := by rw [takeS h, setU_snoc]
theorem momT_len (key : UInt8) (l : List File) (n : Nat) : (momT key l n).length = n := by simp [momT]
theorem momT_get {key : UInt8} {l : List File} {n i : Nat} (h : i < n) : (momT key l n)[i]? = some (stepTo (lkG key) l i) := by
  rw [momT, List.getElem?_map, List.getElem?_range h]; rfl
theorem numsT_len (n : Nat) : (numsT n).length = n := by simp [numsT]
theorem wild_eq (a b : Nat) : AV.v (.bool (decide (3 * (a : Int) ≤ 4 * (b : Int)))) = boolA (decide (3 * a ≤ 4 * b)) := by
  unfold boolA
  congr 2
  rw [decide_eq_decide]
  omega
theorem ran_len {key : UInt8} {l : List File} (h : RanOk key l) : (bestOf (lookT key l) whT (numsT (l.length + 1))).length = l.length := by
  have hn := (okFs_un h.ok).2.2
  have hp := (List.perm_ext_iff_of_nodup (best_nodup (lookT key l) whT (numsT (l.length + 1))) hn).2 (fun x => ran_keys h x)
  have := hp.length_eq
  rw [List.length_map, List.length_map] at this
  exact this
theorem look_bnd {key : UInt8} {l : List File} (h : RanOk key l) {m : Int} {fs : List File} (hl : lookT key l m = some fs) : fs.length ≤ 1000000 ∧ ∀ f ∈ fs, f.data.length ≤ 1000000 := by
  unfold lookT at hl
  split at hl
  · cases hl
    have h8 := (okFs_un h.ok).1
    refine ⟨by rw [stepTo_len]; omega, fun f hf => ?_⟩
    obtain ⟨x, hx, rfl | rfl⟩ := stepTo_mem hf
    · have := h.small _ hx; omega
    · show (lockF x.data key).length ≤ _
      rw [lockF_len]; have := h.small _ hx; omega
  · cases hl
theorem cho_bnd {key : UInt8} {l : List File} (h : RanOk key l) : ∀ c ∈ choT l, c.name.size ≤ 1000000 ∧ c.data.length ≤ 1000000 := fun c hc => by
  obtain ⟨j, hj⟩ := List.getElem?_of_mem hc
  obtain ⟨f, hf, rfl⟩ := choT_inv hj
  have hm := List.mem_of_getElem? hf
  have h1 := h.small f hm
  have h2 := (okFs_bnd h.ok).1 f hm
  exact ⟨by show f.name.size ≤ _; omega, by show f.data.length ≤ _; omega⟩
end Go.Proofs.YtcbhhjahjnlfhaaDoor.A
namespace Go.Proofs.YtcbhhjahjnlfhaaDoor.A
open Go Go.RowKit
set_option linter.unusedVariables false
set_option linter.unusedSimpArgs false
set_option linter.unusedSectionVars false
variable {P : Program} {w0 : Base} {C0 C : CS} {T : TS} {S S' : AState} {a : Act} {w : World} {ops : Array Oper} {rest : List Oper} {o : Oper} {Q : Exit → AState → Prop}
variable {t : Nat} {ty ty' : TypeId} {pos : String} {aft : Array Edge} {rn : Option Nat}
theorem isVal_u8 (l : List UInt8) : IsVal (.agg (l.map fun x => .v (.int .u8 x.toNat))) (.agg (l.map Extern.Stop.cell).toArray) := by
  refine isVal_agg ?_
  have : (l.map fun x => AV.v (.int .u8 x.toNat)) = (l.map Extern.Stop.cell).map AV.v := by rw [List.map_map]; rfl
  rw [this]
  exact areVals_v _
theorem r_bytesNe {x y : Operand} {sx sy : SV} {xt yt e : TypeId} {n : Nat} {xs ys : List UInt8} (hx : S.ev x = some sx) (hy : S.ev y = some sy) (hxa : sx.av = .agg (xs.map fun x => .v (.int .u8 x.toNat))) (hya : sy.av = .agg (ys.map fun x => .v (.int .u8 x.toNat)))
    (hd : P.underlying xt = some (.array n e)) (he : P.underlying e = some (.int .u8)) (hsz : szT P e = some 1) (hg : P.eqGuardType P.depth xt = false) (hxl : xs.length = n) (hyl : ys.length = n) (ht : Nat.blt t S.nt = true)
    (hr : AWL P w0 C0 ops rest Q (S.put t (.a (.v (.bool (!(xs == ys))))))) : AWL P w0 C0 ops (⟨some t, .binOp .neq xt x y yt, ty, pos, aft, none⟩ :: rest) Q S :=
  awl_pure ht (fun C T a w hs => ⟨.bool (!(xs == ys)), by
    have h1 : a.eval x = _ := (isVal_u8 xs C _).1 (by rw [← hxa]; exact (hs.ev hx).av)
    have h2 : a.eval y = _ := (isVal_u8 ys C _).1 (by rw [← hya]; exact (hs.ev hy).av)
    have hgu := run_eqGuard_agg (P := P) w .neq xt x y (xs.map Extern.Stop.cell).toArray (ys.map Extern.Stop.cell).toArray hg
    have heq := run_equalIn_bytes (P := P) w 9998 xt e n hd he (fun w => run_sz hsz w) xs ys hxl hyl
    simp only [execOp, h1, h2, Sem.run_bind, hgu, Result.andThen, run_neq_struct, heq, Sem.run_pure], srel_v _⟩) hr
theorem r_runeStr {src dst : TypeId} {x : Operand} {k : IntKind} {i : Int} (s : ByteArray) {d : TypeDesc} (hx : S.ev x = some (.a (.v (.int k i)))) (hs' : P.underlying src = some d) (hd : P.underlying dst = some .string) (hm : Utf8.encode i = s)
    (ht : Nat.blt t S.nt = true) (hr : AWL P w0 C0 ops rest Q (S.put t (.a (.v (.string s))))) :
    AWL P w0 C0 ops (⟨some t, .convert src dst x, ty, pos, aft, none⟩ :: rest) Q S :=
  awl_pure ht (fun C T a w hs => ⟨.string s, by
    subst hm
    have h := run_convert_int_string (P := P) w src dst k i (by rw [hs']; rfl) hd
    simp only [execOp, hs.evv hx, Sem.run_bind, h, Result.andThen, Sem.run_pure], srel_v _⟩) hr
end Go.Proofs.YtcbhhjahjnlfhaaDoor.A
namespace Go.Proofs.YtcbhhjahjnlfhaaDoor.A
open Go Go.RowKit
set_option linter.unusedVariables false
set_option linter.unusedSimpArgs false
set_option maxRecDepth 100000
theorem TG.map143 : mapT Tryd.prog 143 = some (5, 4) := by kernel_rfl
theorem TG.en49 : entersT Tryd.prog 49 := enters_of Tryd.func49 (by kernel_rfl) (by kernel_rfl)
theorem TG.en14 : entersT Tryd.prog 14 := enters_of Tryd.func14 (by kernel_rfl) (by kernel_rfl)
theorem TG.en9 : entersT Tryd.prog 9 := enters_of Tryd.func9 (by kernel_rfl) (by kernel_rfl)
theorem TG.en12 : entersT Tryd.prog 12 := enters_of Tryd.func12 (by kernel_rfl) (by kernel_rfl)
theorem TG.en13 : entersT Tryd.prog 13 := enters_of Tryd.func13 (by kernel_rfl) (by kernel_rfl)
theorem spread_ok (data : List UInt8) (hl : data.length ≤ 1000000) : AC Tryd.prog 49 [bts data] [] (fun r n => n = [] ∧ r = .v (.int .i64 ((setU data).length : Nat))) := by
 refine ac_of_awp (rs := [2]) (nt := 18) Tryd.func49 rfl rfl rfl rfl (fun w0 C0 hq => ?_)
 refine awp_seq ?_
 refine awp_region ?_
 refine r_assign rfl rfl ?_
 refine awl_nil ?_
 refine x_then ?_
 refine awp_seq ?_
 refine awp_region ?_
 refine r_makeMap (ek := (Value.int .u8)) (ev := boolA) [] rfl rfl (fun b6 => ?_)
 refine r_assign rfl rfl ?_
 refine awl_nil ?_
 refine x_then ?_
 refine awp_seq ?_
 refine awp_seq ?_
 refine awp_region ?_
 refine r_move rfl rfl ?_
 refine r_lenS rfl rfl TG.sl22 rfl ?_
 refine r_move rfl rfl ?_
 refine awl_nil ?_
 refine x_then ?_
 refine awp_block ?_
 refine awp_loop (fun nn0 S => ∃ k : Nat, S = ⟨18, [(3, .a (.v (.map (some b6)))), (7, .a (bts data)), (8, .a (.v (.int .i64 ((u8s data).length)))), (9, .a (.v (.int .i64 ((k : Int)))))], [⟨b6, true, .map (encM (Value.int .u8) boolA (setU (data.take k)))⟩]⟩ ∧ nn0 = data.length - k ∧ (k ≤ data.length)) (data.length - (0)) ⟨18, [(3, .a (.v (.map (some b6)))), (7, .a (bts data)), (8, .a (.v (.int .i64 ((u8s data).length)))), (9, .a (.v (.int .i64 (((0) : Int)))))], [⟨b6, true, .map (encM (Value.int .u8) boolA (setU (data.take (0))))⟩]⟩ ⟨rfl, (Slots.cons rfl (by first | exact .refl _ | exact .nilOwn _ _ | exact .nilSl _ | exact .ownSl _ _ _  | exact SV.le.of_eq (by simp)) (Slots.cons rfl (by first | exact .refl _ | exact .nilOwn _ _ | exact .nilSl _ | exact .ownSl _ _ _  | exact SV.le.of_eq (by simp)) (Slots.cons rfl (by first | exact .refl _ | exact .nilOwn _ _ | exact .nilSl _ | exact .ownSl _ _ _  | exact SV.le.of_eq (by simp)) (Slots.cons rfl (by first | exact .refl _ | exact .nilOwn _ _ | exact .nilSl _ | exact .ownSl _ _ _  | exact SV.le.of_eq (by simp)) Slots.nil)))), (by first | exact List.Sublist.refl _ | exact .cons_cons _ (.cons _ (.refl _)) | exact List.nil_sublist _ | exact .cons _ (.refl _) | exact .cons _ (.cons _ (.refl _)) | exact .cons _ (.cons _ (.cons _ (.refl _))) | exact .cons _ (.cons _ (.cons _ (.cons _ (.refl _)))) | exact .cons_cons _ (List.nil_sublist _))⟩ ⟨0, rfl, rfl, Nat.zero_le _⟩ ?_
 rintro nn0 _ ⟨k, rfl, rfl, hk⟩
 refine awp_seq ?_
 refine awp_region ?_
 refine r_cmp rfl rfl rfl rfl ?_
 refine awl_nil ?_
 refine x_then ?_
 refine awp_seq ?_
 refine awp_cond rfl (fun hc0 => ?_) (fun hc0 => ?_)
 ·
  have hltx : k < data.length := by have := of_decide_eq_true hc0; rw [u8sL] at this; omega
  obtain ⟨x, hx⟩ := get_lt hltx
  refine awp_skip ?_
  refine x_then ?_
  refine awp_seq ?_
  refine awp_block ?_
  refine awp_seq ?_
  refine awp_region ?_
  refine r_index rfl rfl rfl TG.sl22 TG.sz5 (by omega) (get_map hx) rfl ?_
  refine r_load1 rfl TG.agg5 rfl ?_
  refine r_assign rfl rfl ?_
  refine awl_nil ?_
  refine x_then ?_
  refine awp_region ?_
  refine r_move rfl rfl ?_
  refine r_move rfl rfl ?_
  refine r_mapUpdate 0 (keyEnc_int (q := .u8) TG.un5) (ev := boolA) true rfl rfl rfl rfl rfl TG.map143 ?_
  refine awl_nil ?_
  refine x_block ?_
  refine x_then ?_
  refine awp_region ?_
  refine r_ari _ rfl rfl rfl (wrap_id (by first | omega | (simp; omega))) rfl ?_
  refine r_move rfl rfl ?_
  refine awl_nil ?_
  refine x_then ?_
  refine ⟨data.length - (k + 1), ⟨18, [(3, .a (.v (.map (some b6)))), (7, .a (bts data)), (8, .a (.v (.int .i64 ((u8s data).length)))), (9, .a (.v (.int .i64 (((k + 1) : Int)))))], [⟨b6, true, .map (encM (Value.int .u8) boolA (setU (data.take (k + 1))))⟩]⟩, ⟨rfl, (Slots.cons rfl (by first | exact .refl _ | exact .nilOwn _ _ | exact .nilSl _ | exact .ownSl _ _ _  | exact SV.le.of_eq (by simp)) (Slots.cons rfl (by first | exact .refl _ | exact .nilOwn _ _ | exact .nilSl _ | exact .ownSl _ _ _  | exact SV.le.of_eq (by simp)) (Slots.cons rfl (by first | exact .refl _ | exact .nilOwn _ _ | exact .nilSl _ | exact .ownSl _ _ _  | exact SV.le.of_eq (by simp)) (Slots.cons rfl (by first | exact .refl _ | exact .nilOwn _ _ | exact .nilSl _ | exact .ownSl _ _ _  | exact SV.le.of_eq (by simp)) Slots.nil)))), (by rw [setU_take hx]; exact List.Sublist.refl _)⟩, (by omega), ⟨k + 1, rfl, rfl, (by omega)⟩⟩
 ·
  have hge : data.length ≤ k := by have := of_decide_eq_false hc0; rw [u8sL] at this; omega
  rw [List.take_of_length_le hge]
  refine awp_exit ?_
  refine x_thenE ?_
  refine x_thenE ?_
  refine x_blockE ?_
  refine x_then ?_
  refine awp_seq ?_
  refine awp_region ?_
  refine r_move rfl rfl ?_
  refine r_lenM 0 rfl rfl TG.map143 rfl ?_
  refine r_assign rfl rfl ?_
  refine awl_nil ?_
  refine x_then ?_
  refine awp_ret ?_
  exact ⟨(.inl rfl), _, [], (.one (by first | exact .mk rfl rfl | exact .nil rfl)), ⟨rfl, rfl⟩, (List.nil_sublist _), (by simp)⟩
theorem wild_ok (data : List UInt8) (hl : data.length ≤ 1000000) : AC Tryd.prog 14 [bts data] [] (fun r n => n = [] ∧ r = boolA (wildF data)) := by
 have hsl := setU_le data
 refine ac_of_awp (rs := [2]) (nt := 16) Tryd.func14 rfl rfl rfl rfl (fun w0 C0 hq => ?_)
 refine awp_seq ?_
 refine awp_region ?_
 refine r_assign rfl rfl ?_
 refine awl_nil ?_
 refine x_then ?_
 refine awp_seq ?_
 refine awp_region ?_
 refine r_move rfl rfl ?_
 refine r_lenS rfl rfl TG.sl22 rfl ?_
 refine r_cmp rfl rfl rfl rfl ?_
 refine r_move rfl rfl ?_
 refine g_cases (t' := 6) rfl (fun hg6 => ?_) (fun hg6 => ?_)
 ·
  have h16 : 16 ≤ data.length := by have := of_decide_eq_true hg6; rw [u8sL] at this; omega
  refine g_run rfl rfl hg6 ?_
  refine r_move rfl rfl ?_
  refine g_run rfl rfl hg6 ?_
  refine r_call0 hq rfl rfl (.cons (.ev rfl rfl) .nil) (spread_ok data hl) rfl TG.en49 rfl (fun r hr => ?_)
  obtain rfl := hr
  refine g_run rfl rfl hg6 ?_
  refine r_ari _ rfl rfl rfl (wrap_id (by first | omega | (simp; omega))) rfl ?_
  refine g_run rfl rfl hg6 ?_
  refine r_move rfl rfl ?_
  refine g_run rfl rfl hg6 ?_
  refine r_lenS rfl rfl TG.sl22 rfl ?_
  refine g_run rfl rfl hg6 ?_
  refine r_minE (m := ((min data.length 64 : Nat) : Int)) rfl rfl (by rw [u8sL]; omega) rfl ?_
  refine g_run rfl rfl hg6 ?_
  refine r_ari _ rfl rfl rfl (wrap_id (by first | omega | (simp; omega))) rfl ?_
  refine g_run rfl rfl hg6 ?_
  refine r_cmp rfl rfl rfl rfl ?_
  refine r_pickT rfl hg6 rfl rfl ?_
  refine r_assign rfl rfl ?_
  refine awl_nil ?_
  refine x_then ?_
  refine awp_ret ?_
  exact ⟨(.inl rfl), _, [], (.one (by first | exact .mk rfl rfl | exact .nil rfl)), ⟨rfl, by first | (rw [wildF, decide_eq_false h16, Bool.false_and]; rfl) | (rw [wildF, decide_eq_true h16, Bool.true_and]; exact wild_eq _ _)⟩, (List.nil_sublist _), (by simp)⟩
 ·
  have h16 : ¬ 16 ≤ data.length := by have := of_decide_eq_false hg6; rw [u8sL] at this; omega
  refine g_skip rfl rfl hg6 rfl ?_
  refine g_skip rfl rfl hg6 rfl ?_
  refine g_skip rfl rfl hg6 rfl ?_
  refine g_skip rfl rfl hg6 rfl ?_
  refine g_skip rfl rfl hg6 rfl ?_
  refine g_skip rfl rfl hg6 rfl ?_
  refine g_skip rfl rfl hg6 rfl ?_
  refine g_skip rfl rfl hg6 rfl ?_
  refine r_pickF rfl hg6 rfl rfl ?_
  refine r_assign rfl rfl ?_
  refine awl_nil ?_
  refine x_then ?_
  refine awp_ret ?_
  exact ⟨(.inl rfl), _, [], (.one (by first | exact .mk rfl rfl | exact .nil rfl)), ⟨rfl, by first | (rw [wildF, decide_eq_false h16, Bool.false_and]; rfl) | (rw [wildF, decide_eq_true h16, Bool.true_and]; exact wild_eq _ _)⟩, (List.nil_sublist _), (by simp)⟩
theorem whole3_ok (s : ByteArray) (d : List UInt8) (hd : d.length ≤ 1000000) : AC Tryd.prog 13 [strA s, bts d] [] (fun r n => n = [] ∧ r = boolA (whT s d)) := by
 refine ac_of_awp (rs := [4]) (nt := 8) Tryd.func13 rfl rfl rfl rfl (fun w0 C0 hq => ?_)
 refine awp_seq ?_
 refine awp_region ?_
 refine r_assign rfl rfl ?_
 refine awl_nil ?_
 refine x_then ?_
 refine awp_seq ?_
 refine awp_region ?_
 refine r_move rfl rfl ?_
 refine r_call0 hq rfl rfl (.cons (.ev rfl rfl) .nil) (wild_ok d hd) rfl TG.en14 rfl (fun r hr => ?_)
 obtain rfl := hr
 refine r_not rfl rfl ?_
 refine r_assign rfl rfl ?_
 refine awl_nil ?_
 refine x_then ?_
 refine awp_ret ?_
 exact ⟨(.inl rfl), _, [], (.one (by first | exact .mk rfl rfl | exact .nil rfl)), ⟨rfl, rfl⟩, (List.nil_sublist _), (by simp)⟩
theorem at2_ok (th : List (List File)) (i : Nat) (fs : List File) (hi : th[i]? = some fs) (hl : th.length ≤ 1000000) : AC Tryd.prog 12 [.v (.int .u64 ((i + 1 : Nat) : Int)), .cp [.sl 1 (th.map rowFs)]] [] (fun r n => n = [] ∧ r = .tup [files fs, boolA true]) := by
 have hlt := (List.getElem?_eq_some_iff.1 hi).1
 refine ac_of_awp (rs := [3, 4]) (nt := 19) Tryd.func12 rfl rfl rfl rfl (fun w0 C0 hq => ?_)
 refine awp_seq ?_
 refine awp_region ?_
 refine r_assign rfl rfl ?_
 refine r_assign rfl rfl ?_
 refine awl_nil ?_
 refine x_then ?_
 refine awp_seq ?_
 refine awp_seq ?_
 refine awp_region ?_
 refine r_move rfl rfl ?_
 refine r_cmp rfl rfl rfl rfl ?_
 refine r_move rfl rfl ?_
 refine g_run rfl rfl (decide_eq_false (by omega)) ?_
 refine r_move rfl rfl ?_
 refine g_run rfl rfl (decide_eq_false (by omega)) ?_
 refine r_load1 rfl TG.agg28 rfl ?_
 refine g_run rfl rfl (decide_eq_false (by omega)) ?_
 refine r_lenS rfl rfl TG.sl28 rfl ?_
 refine g_run rfl rfl (decide_eq_false (by omega)) ?_
 refine r_conv ((th.length : Nat) : Int) rfl TG.un3 TG.un47 (by rw [List.length_map]; exact wrap_u64 (by omega)) rfl ?_
 refine g_run rfl rfl (decide_eq_false (by omega)) ?_
 refine r_cmp rfl rfl rfl rfl ?_
 refine r_pickF rfl (decide_eq_false (by omega)) rfl rfl ?_
 refine awl_nil ?_
 refine x_then ?_
 refine awp_cond rfl (fun hc0 => ?_) (fun hc0 => ?_)
 ·
  exfalso; have := of_decide_eq_true hc0; omega
 ·
  refine awp_skip ?_
  refine x_then ?_
  refine awp_seq ?_
  refine awp_region ?_
  refine r_load1 rfl TG.agg28 rfl ?_
  refine r_move rfl rfl ?_
  refine r_ari (i : Int) rfl rfl rfl (by rw [show ((i + 1 : Nat) : Int) - 1 = i by omega]; exact wrap_u64 (by omega)) rfl ?_
  refine r_index rfl rfl rfl TG.sl28 TG.sz24 (by omega) (get_map hi) rfl ?_
  refine r_load1 rfl TG.agg24 rfl ?_
  refine r_assign rfl rfl ?_
  refine r_assign rfl rfl ?_
  refine awl_nil ?_
  refine x_then ?_
  refine awp_ret ?_
  exact ⟨(.inl rfl), _, [], (.two (by first | exact .mk rfl rfl | exact .nil rfl) (by first | exact .mk rfl rfl | exact .nil rfl)), ⟨rfl, rfl⟩, (List.nil_sublist _), (by simp)⟩
theorem get11_ok (m : List (Int × Blk)) (k : Nat) (b : Blk) (hb : mget m (k : Int) = some b) {g c : Nat} {f1 f2 : Bool} : AC Tryd.prog 9 [.v (.int .i64 (k : Int)), .v (.pointer (some ⟨g, 0, none⟩))] [⟨g, f1, .box [.v (.map (some c))]⟩, ⟨c, f2, .map (encM (Value.int .i64) blkA m)⟩] (fun r n => n = [] ∧ r = .tup [blkA b, .v (.bool true)]) := by
 refine ac_of_awpG (Res2K Tryd.prog (.cell 3 33) (.tmp 4)) (nt := 15) Tryd.func9 rfl rfl rfl (resK2_run rfl) (fun w0 C0 hq => ?_)
 refine awp_seq ?_
 refine awp_region ?_
 refine r_alloc TG.zero33 rfl (fun b3 => ?_)
 refine r_assign rfl rfl ?_
 refine awl_nil ?_
 refine x_then ?_
 refine awp_seq ?_
 refine awp_region ?_
 refine r_load1b 1 rfl rfl rfl TG.agg27 rfl ?_
 refine r_move rfl rfl ?_
 refine r_lookupOk 2 (keyEnc_int (q := .i64) TG.un3) (ev := blkA) ([] : Blk) rfl rfl rfl TG.map27 zavB rfl ?_
 rw [hb]
 refine r_move rfl rfl ?_
 refine r_extract rfl rfl rfl ?_
 refine r_extract rfl rfl rfl ?_
 refine r_alloc TG.zero33 rfl (fun b5 => ?_)
 refine r_store 0 rfl rfl rfl TG.sz33 rfl rfl rfl ?_
 refine r_assign rfl rfl ?_
 refine awl_nil ?_
 refine x_then ?_
 refine awp_seq ?_
 refine awp_region ?_
 refine r_loadAb 0 rfl rfl TG.agg33 TG.sz33 rfl rfl ?_
 refine r_move rfl rfl ?_
 refine r_store 1 rfl rfl rfl TG.sz33 rfl rfl rfl ?_
 refine r_assign rfl rfl ?_
 refine awl_nil ?_
 refine x_then ?_
 refine awp_ret ?_
 exact ⟨(.inl rfl), _, [], ⟨_, _, (.box (by first | exact .mk' 0 rfl rfl TG.agg33 TG.sz33 rfl | exact .mk' 1 rfl rfl TG.agg33 TG.sz33 rfl | exact .mk' 2 rfl rfl TG.agg33 TG.sz33 rfl | exact .mk' 3 rfl rfl TG.agg33 TG.sz33 rfl | exact .mk' 4 rfl rfl TG.agg33 TG.sz33 rfl | exact .mk' 5 rfl rfl TG.agg33 TG.sz33 rfl)), (.tmp (by first | exact .mk rfl rfl | exact .nil rfl)), rfl⟩, ⟨rfl, rfl⟩, (List.nil_sublist _), (by simp)⟩
theorem mount_ok (l : List File) (m : List (Int × Blk)) (hm : Has m l) {g c : Nat} {f1 f2 : Bool} : AWC MG Tryd.prog 7 [.v (.pointer (some ⟨g, 0, none⟩))] [⟨g, f1, .box [.v (.map (some c))]⟩, ⟨c, f2, .map (encM (Value.int .i64) blkA m)⟩] [] (fun r n => n = [] ∧ r = files l) := by
 refine awc_of_awpG MG (so := [⟨g, false, .box [.v (.map (some c))]⟩, ⟨c, false, .map (encM (Value.int .i64) blkA m)⟩]) (nt := 10) (fun S r => Result1 S [1] r) Tryd.func7 rfl rfl rfl rfl (result1_run rfl) (fun w0 C0 hq hcs => ?_)
 refine awp_seq ?_
 refine awp_region ?_
 refine r_assign rfl rfl ?_
 refine awl_nil ?_
 refine x_then ?_
 refine awp_seq ?_
 refine awp_region ?_
 refine r_makeFunc rfl (.cons (.ev rfl rfl) .nil) rfl ?_
 refine r_callPC hq MG hcs (wo := []) (un := [⟨g, false, .box [.v (.map (some c))]⟩, ⟨c, false, .map (encM (Value.int .i64) blkA m)⟩]) rfl rfl (.cons (.ev rfl rfl) .nil) (readD_ok l hm.1 TG.en9 (os := [⟨g, false, .box [.v (.map (some c))]⟩, ⟨c, false, .map (encM (Value.int .i64) blkA m)⟩]) (fun k b h => get11_ok m k b (hm.2 k b h))) rfl TG.en8 (List.Perm.refl _) (List.Sublist.refl _) rfl (fun r nobjs hr => ?_)
 obtain ⟨rfl, rfl⟩ := hr
 refine r_move rfl rfl ?_
 refine r_extract rfl rfl rfl ?_
 refine r_extract rfl rfl rfl ?_
 refine r_assign rfl rfl ?_
 refine r_assign rfl rfl ?_
 refine awl_nil ?_
 refine x_then ?_
 refine awp_seq ?_
 refine awp_region ?_
 refine r_move rfl rfl ?_
 refine r_assign rfl rfl ?_
 refine awl_nil ?_
 refine x_then ?_
 refine awp_ret ?_
 exact ⟨(.inl rfl), _, [], (.one (by first | exact .mk rfl rfl | exact .nil rfl)), ⟨rfl, rfl⟩, (List.nil_sublist _), (by simp)⟩
theorem ranplan_ok {key : UInt8} {l : List File} (h : RanOk key l) : AC Tryd.prog 11 [numsA (numsT (l.length + 1)), .fn 12 [.cp [.sl 1 ((momT key l (l.length + 1)).map rowFs)]], .fn 13 []] [] (fun r n => n = [] ∧ r = choicesA (choT l)) := by
  rw [← ran_plan h]
  have h8 := (okFs_un h.ok).1
  refine plan_ok (numsT (l.length + 1)) (lookT key l) whT (by rw [numsT_len]; omega) (fun m hm fs hl => look_bnd h hl) TG.en12 (fun m hm => ?_) TG.en13 (fun s d hd => whole3_ok s d hd) (by rw [ran_len h]; omega) (fun s hs => ?_)
  · obtain ⟨i, hi, rfl⟩ := mem_numsT.1 hm
    rw [lookT_at key l (by omega)]
    exact at2_ok (momT key l (l.length + 1)) i _ (momT_get hi) (by rw [momT_len]; omega)
  · obtain ⟨f, hf, rfl⟩ := List.mem_map.1 ((ran_keys h s).1 hs)
    have := (okFs_bnd h.ok).1 f hf
    unfold maxLen; omega
end Go.Proofs.YtcbhhjahjnlfhaaDoor.A
namespace Go.Proofs.YtcbhhjahjnlfhaaDoor.A
open Go Go.RowKit
set_option linter.unusedVariables false
set_option linter.unusedSimpArgs false
set_option maxRecDepth 100000
theorem TG.guard33 : Tryd.prog.eqGuardType Tryd.prog.depth 33 = false := by kernel_rfl
theorem TG.un21 : Tryd.prog.underlying 21 = some (.int .i32) := by kernel_rfl
theorem TG.en7 : entersT Tryd.prog 7 := enters_of Tryd.func7 (by kernel_rfl) (by kernel_rfl)
theorem TG.en6 : entersT Tryd.prog 6 := enters_of Tryd.func6 (by kernel_rfl) (by kernel_rfl)
theorem TG.f41_0 : fieldT Tryd.prog 41 0 = some (0, 3) := by kernel_rfl
theorem TG.by24 : bytesT Tryd.prog 24 = some 24 := by kernel_rfl
theorem TG.zlen24 : (zeroT Tryd.prog 24).map (·.length) = some 1 := by kernel_rfl
theorem TG.by47 : bytesT Tryd.prog 47 = some 8 := by kernel_rfl
theorem TG.zlen47 : (zeroT Tryd.prog 47).map (·.length) = some 1 := by kernel_rfl
set_option maxHeartbeats 4000000 in
theorem sransom_law (long : List UInt8) (data key : UInt8) : AWC MG Tryd.prog 3 [bts long, .v (.int .u8 data.toNat), .v (.int .u8 key.toNat)] [] [] (fun r n => n = [] ∧ r = boolA true) := by
 refine awc_of_awpG MG (so := []) (nt := 200) (fun S r => Result1 S [6] r) Tryd.func3 rfl rfl rfl rfl (result1_run rfl) (fun w0 C0 hq hcs => ?_)
 refine awp_seq ?_
 refine awp_region ?_
 refine r_assign rfl rfl ?_
 refine awl_nil ?_
 refine x_then ?_
 refine awp_seq ?_
 refine awp_seq ?_
 refine awp_region ?_
 refine r_call0 hq rfl rfl .nil (awake66_ok) rfl TG.en6 rfl (fun r hr => ?_)
 obtain rfl := hr
 refine r_not rfl rfl ?_
 refine awl_nil ?_
 refine x_then ?_
 refine awp_cond rfl (fun hc0 => ?_) (fun hc0 => ?_)
 ·
  exfalso; exact absurd hc0 (by decide)
 ·
  refine awp_skip ?_
  refine x_then ?_
  refine awp_seq ?_
  refine awp_seq ?_
  refine awp_region ?_
  refine r_move rfl rfl ?_
  refine r_lenS rfl rfl TG.sl22 rfl ?_
  refine r_cmp rfl rfl rfl rfl ?_
  refine r_move rfl rfl ?_
  refine g_cases (t' := 35) rfl (fun hg35 => ?_) (fun hg35 => ?_)
  ·
   refine g_skip rfl rfl hg35 rfl ?_
   refine g_skip rfl rfl hg35 rfl ?_
   refine g_skip rfl rfl hg35 rfl ?_
   refine r_pickT rfl hg35 rfl rfl ?_
   refine awl_nil ?_
   refine x_then ?_
   refine awp_condT rfl ?_
   refine awp_seq ?_
   refine awp_region ?_
   refine r_assign rfl rfl ?_
   refine awl_nil ?_
   refine x_then ?_
   refine awp_ret ?_
   refine x_thenR ?_
   exact ⟨(.inl rfl), _, [], (.one (by first | exact .mk rfl rfl | exact .nil rfl)), ⟨rfl, by first | rfl | (simp [boolA, SV.av]; done)⟩, (List.nil_sublist _), (by simp)⟩
  ·
   have hn0 : ¬ long.length = 0 := by intro h; have h9 := hg35; rw [u8sL, h] at h9; exact absurd h9 (by decide)
   refine g_run rfl rfl hg35 ?_
   refine r_move rfl rfl ?_
   refine g_run rfl rfl hg35 ?_
   refine r_lenS rfl rfl TG.sl22 rfl ?_
   refine g_run rfl rfl hg35 ?_
   refine r_cmp rfl rfl rfl rfl ?_
   refine r_pickF rfl hg35 rfl rfl ?_
   refine awl_nil ?_
   refine x_then ?_
   refine awp_cond rfl (fun hc1 => ?_) (fun hc1 => ?_)
   ·
    refine awp_seq ?_
    refine awp_region ?_
    refine r_assign rfl rfl ?_
    refine awl_nil ?_
    refine x_then ?_
    refine awp_ret ?_
    refine x_thenR ?_
    exact ⟨(.inl rfl), _, [], (.one (by first | exact .mk rfl rfl | exact .nil rfl)), ⟨rfl, by first | rfl | (simp [boolA, SV.av]; done)⟩, (List.nil_sublist _), (by simp)⟩
   ·
    have h4 : long.length ≤ 4 := by have := of_decide_eq_false hc1; rw [u8sL] at this; omega
    refine awp_skip ?_
    refine x_then ?_
    refine awp_seq ?_
    refine awp_region ?_
    refine r_assign rfl rfl ?_
    refine awl_nil ?_
    refine x_then ?_
    refine awp_seq ?_
    refine awp_seq ?_
    refine awp_region ?_
    refine r_move rfl rfl ?_
    refine r_lenS rfl rfl TG.sl22 rfl ?_
    refine r_move rfl rfl ?_
    refine awl_nil ?_
    refine x_then ?_
    refine awp_block ?_
    refine awp_loop (fun nn0 S => ∃ k : Nat, S = ⟨200, [(1, .a (.v (.int .u8 (data.toNat)))), (2, .a (.v (.int .u8 (key.toNat)))), (7, .own 7 2 ((l0F (long.take k) data).map File.cs)), (40, .a (bts long)), (41, .a (.v (.int .i64 ((u8s long).length)))), (42, .a (.v (.int .i64 ((k : Int)))))], []⟩ ∧ nn0 = long.length - k ∧ (k ≤ long.length)) (long.length - (0)) ⟨200, [(1, .a (.v (.int .u8 (data.toNat)))), (2, .a (.v (.int .u8 (key.toNat)))), (7, .own 7 2 ((l0F (long.take (0)) data).map File.cs)), (40, .a (bts long)), (41, .a (.v (.int .i64 ((u8s long).length)))), (42, .a (.v (.int .i64 (((0) : Int)))))], []⟩ ⟨rfl, (Slots.cons rfl (by first | exact .refl _ | exact .nilOwn _ _ | exact .nilSl _ | exact .ownSl _ _ _  | exact SV.le.of_eq (by simp)) (Slots.cons rfl (by first | exact .refl _ | exact .nilOwn _ _ | exact .nilSl _ | exact .ownSl _ _ _  | exact SV.le.of_eq (by simp)) (Slots.cons rfl (by first | exact .refl _ | exact .nilOwn _ _ | exact .nilSl _ | exact .ownSl _ _ _  | exact SV.le.of_eq (by simp)) (Slots.cons rfl (by first | exact .refl _ | exact .nilOwn _ _ | exact .nilSl _ | exact .ownSl _ _ _  | exact SV.le.of_eq (by simp)) (Slots.cons rfl (by first | exact .refl _ | exact .nilOwn _ _ | exact .nilSl _ | exact .ownSl _ _ _  | exact SV.le.of_eq (by simp)) (Slots.cons rfl (by first | exact .refl _ | exact .nilOwn _ _ | exact .nilSl _ | exact .ownSl _ _ _  | exact SV.le.of_eq (by simp)) Slots.nil)))))), (by first | exact List.Sublist.refl _ | exact .cons_cons _ (.cons _ (.refl _)) | exact List.nil_sublist _ | exact .cons _ (.refl _) | exact .cons _ (.cons _ (.refl _)) | exact .cons _ (.cons _ (.cons _ (.refl _))) | exact .cons _ (.cons _ (.cons _ (.cons _ (.refl _)))) | exact .cons_cons _ (List.nil_sublist _))⟩ ⟨0, rfl, rfl, Nat.zero_le _⟩ ?_
    rintro nn0 _ ⟨k, rfl, rfl, hk⟩
    refine awp_seq ?_
    refine awp_region ?_
    refine r_cmp rfl rfl rfl rfl ?_
    refine awl_nil ?_
    refine x_then ?_
    refine awp_seq ?_
    refine awp_cond rfl (fun hc2 => ?_) (fun hc2 => ?_)
    ·
     have hltx : k < long.length := by have := of_decide_eq_true hc2; rw [u8sL] at this; omega
     obtain ⟨x, hx⟩ := get_lt hltx
     obtain ⟨N, hN⟩ : ∃ N, N = 16 + x.toNat % 64 := ⟨_, rfl⟩
     have hxl := x.toNat_lt
     have hk4 : k < 4 := by omega
     have hkc : k = 0 ∨ k = 1 ∨ k = 2 ∨ k = 3 := by omega
     obtain ⟨v, hv⟩ : ∃ v, v = data + k.toUInt8 := ⟨_, rfl⟩
     have hll : (l0F (long.take k) data).length = k := by rw [l0_len, List.length_take]; omega
     have hst : (l0F (long.take (k + 1)) data).map File.cs = (l0F (long.take k) data).map File.cs ++ [File.cs ⟨nmR k, List.replicate N v⟩] := by rw [l0_snoc hx, List.map_append, hN, hv]; rfl
     refine awp_skip ?_
     refine x_then ?_
     refine awp_seq ?_
     refine awp_block ?_
     refine awp_seq ?_
     refine awp_region ?_
     refine r_move rfl rfl ?_
     refine r_index rfl rfl rfl TG.sl22 TG.sz5 (by omega) (get_map hx) rfl ?_
     refine r_load1 rfl TG.agg5 rfl ?_
     refine r_assign rfl rfl ?_
     refine r_assign rfl rfl ?_
     refine awl_nil ?_
     refine x_then ?_
     refine awp_seq ?_
     refine awp_region ?_
     refine r_move rfl rfl ?_
     refine r_conv ((x.toNat : Nat) : Int) rfl TG.un5 TG.un3 (wrap_id (by omega)) rfl ?_
     refine r_div ((x.toNat % 64 : Nat) : Int) rfl rfl (rem_some (by decide)) (by rw [Int.tmod_eq_emod_of_nonneg (by omega)]; omega) rfl ?_
     refine r_ari (N : Int) rfl rfl rfl (by rw [wrap_id (by omega)]; omega) rfl ?_
     refine r_makeSlice rfl rfl TG.sl22 TG.sz5 TG.by5 TG.zraw5 (by omega) (by omega) rfl (fun b51 => ?_)
     refine r_assign rfl rfl ?_
     refine awl_nil ?_
     refine x_then ?_
     refine awp_seq ?_
     refine awp_seq ?_
     refine awp_region ?_
     refine r_move rfl rfl ?_
     refine r_lenV rfl TG.sl22 rfl ?_
     refine r_move rfl rfl ?_
     refine awl_nil ?_
     refine x_then ?_
     refine awp_block ?_
     refine awp_loop (fun nn0 S => ∃ j : Nat, S = ⟨200, [(1, .a (.v (.int .u8 (data.toNat)))), (2, .a (.v (.int .u8 (key.toNat)))), (7, .own 7 2 ((l0F (long.take k) data).map File.cs)), (8, .a (.v (.int .i64 ((k : Int))))), (10, .a (.v (.slice (some ⟨b51, 0, none⟩) N N))), (40, .a (bts long)), (41, .a (.v (.int .i64 ((u8s long).length)))), (42, .a (.v (.int .i64 ((k : Int))))), (53, .a (.v (.int .i64 ((N : Int))))), (54, .a (.v (.int .i64 ((j : Int)))))], [⟨b51, true, .box (fillC v N j)⟩]⟩ ∧ nn0 = N - j ∧ (j ≤ N)) (N - (0)) ⟨200, [(1, .a (.v (.int .u8 (data.toNat)))), (2, .a (.v (.int .u8 (key.toNat)))), (7, .own 7 2 ((l0F (long.take k) data).map File.cs)), (8, .a (.v (.int .i64 ((k : Int))))), (10, .a (.v (.slice (some ⟨b51, 0, none⟩) N N))), (40, .a (bts long)), (41, .a (.v (.int .i64 ((u8s long).length)))), (42, .a (.v (.int .i64 ((k : Int))))), (53, .a (.v (.int .i64 ((N : Int))))), (54, .a (.v (.int .i64 (((0) : Int)))))], [⟨b51, true, .box (fillC v N (0))⟩]⟩ ⟨rfl, (Slots.cons rfl (by first | exact .refl _ | exact .nilOwn _ _ | exact .nilSl _ | exact .ownSl _ _ _  | exact SV.le.of_eq (by simp)) (Slots.cons rfl (by first | exact .refl _ | exact .nilOwn _ _ | exact .nilSl _ | exact .ownSl _ _ _  | exact SV.le.of_eq (by simp)) (Slots.cons rfl (by first | exact .refl _ | exact .nilOwn _ _ | exact .nilSl _ | exact .ownSl _ _ _  | exact SV.le.of_eq (by simp)) (Slots.cons rfl (by first | exact .refl _ | exact .nilOwn _ _ | exact .nilSl _ | exact .ownSl _ _ _  | exact SV.le.of_eq (by simp)) (Slots.cons rfl (by first | exact .refl _ | exact .nilOwn _ _ | exact .nilSl _ | exact .ownSl _ _ _  | exact SV.le.of_eq (by simp)) (Slots.cons rfl (by first | exact .refl _ | exact .nilOwn _ _ | exact .nilSl _ | exact .ownSl _ _ _  | exact SV.le.of_eq (by simp)) (Slots.cons rfl (by first | exact .refl _ | exact .nilOwn _ _ | exact .nilSl _ | exact .ownSl _ _ _  | exact SV.le.of_eq (by simp)) (Slots.cons rfl (by first | exact .refl _ | exact .nilOwn _ _ | exact .nilSl _ | exact .ownSl _ _ _  | exact SV.le.of_eq (by simp)) (Slots.cons rfl (by first | exact .refl _ | exact .nilOwn _ _ | exact .nilSl _ | exact .ownSl _ _ _  | exact SV.le.of_eq (by simp)) (Slots.cons rfl (by first | exact .refl _ | exact .nilOwn _ _ | exact .nilSl _ | exact .ownSl _ _ _  | exact SV.le.of_eq (by simp)) Slots.nil)))))))))), (by rw [fillC_zero]; exact List.Sublist.refl _)⟩ ⟨0, rfl, rfl, Nat.zero_le _⟩ ?_
     rintro nn0 _ ⟨j, rfl, rfl, hj⟩
     refine awp_seq ?_
     refine awp_region ?_
     refine r_cmp rfl rfl rfl rfl ?_
     refine awl_nil ?_
     refine x_then ?_
     refine awp_seq ?_
     refine awp_cond rfl (fun hc3 => ?_) (fun hc3 => ?_)
     ·
      have hjN : j < N := by have := of_decide_eq_true hc3; omega
      refine awp_skip ?_
      refine x_then ?_
      refine awp_seq ?_
      refine awp_block ?_
      refine awp_seq ?_
      refine awp_region ?_
      refine r_move rfl rfl ?_
      refine r_assign rfl rfl ?_
      refine awl_nil ?_
      refine x_then ?_
      refine awp_region ?_
      refine r_move rfl rfl ?_
      refine r_move rfl rfl ?_
      refine r_move rfl rfl ?_
      refine r_move rfl rfl ?_
      refine r_conv (k.toUInt8.toNat : Int) rfl TG.un3 TG.un5 (u8_of k) rfl ?_
      refine r_ari (v.toNat : Int) rfl rfl rfl (by rw [hv]; exact u8_add _ _) rfl ?_
      refine r_indexV rfl rfl TG.sl22 TG.sz5 (by omega) (by omega) rfl ?_
      refine r_store 0 rfl rfl rfl TG.sz5 rfl (Nat.ble_eq_true_of_le (by rw [fillC_len hj]; omega)) rfl ?_
      refine awl_imp (imp_boxEq 0 (fillC v N (j + 1)) rfl (fillC_step hjN (by omega) (by omega))) ?_
      refine awl_nil ?_
      refine x_block ?_
      refine x_then ?_
      refine awp_region ?_
      refine r_ari _ rfl rfl rfl (wrap_id (by first | omega | (simp; omega))) rfl ?_
      refine r_move rfl rfl ?_
      refine awl_nil ?_
      refine x_then ?_
      refine ⟨N - (j + 1), ⟨200, [(1, .a (.v (.int .u8 (data.toNat)))), (2, .a (.v (.int .u8 (key.toNat)))), (7, .own 7 2 ((l0F (long.take k) data).map File.cs)), (8, .a (.v (.int .i64 ((k : Int))))), (10, .a (.v (.slice (some ⟨b51, 0, none⟩) N N))), (40, .a (bts long)), (41, .a (.v (.int .i64 ((u8s long).length)))), (42, .a (.v (.int .i64 ((k : Int))))), (53, .a (.v (.int .i64 ((N : Int))))), (54, .a (.v (.int .i64 (((j + 1) : Int)))))], [⟨b51, true, .box (fillC v N (j + 1))⟩]⟩, ⟨rfl, (Slots.cons rfl (by first | exact .refl _ | exact .nilOwn _ _ | exact .nilSl _ | exact .ownSl _ _ _  | exact SV.le.of_eq (by simp)) (Slots.cons rfl (by first | exact .refl _ | exact .nilOwn _ _ | exact .nilSl _ | exact .ownSl _ _ _  | exact SV.le.of_eq (by simp)) (Slots.cons rfl (by first | exact .refl _ | exact .nilOwn _ _ | exact .nilSl _ | exact .ownSl _ _ _  | exact SV.le.of_eq (by simp)) (Slots.cons rfl (by first | exact .refl _ | exact .nilOwn _ _ | exact .nilSl _ | exact .ownSl _ _ _  | exact SV.le.of_eq (by simp)) (Slots.cons rfl (by first | exact .refl _ | exact .nilOwn _ _ | exact .nilSl _ | exact .ownSl _ _ _  | exact SV.le.of_eq (by simp)) (Slots.cons rfl (by first | exact .refl _ | exact .nilOwn _ _ | exact .nilSl _ | exact .ownSl _ _ _  | exact SV.le.of_eq (by simp)) (Slots.cons rfl (by first | exact .refl _ | exact .nilOwn _ _ | exact .nilSl _ | exact .ownSl _ _ _  | exact SV.le.of_eq (by simp)) (Slots.cons rfl (by first | exact .refl _ | exact .nilOwn _ _ | exact .nilSl _ | exact .ownSl _ _ _  | exact SV.le.of_eq (by simp)) (Slots.cons rfl (by first | exact .refl _ | exact .nilOwn _ _ | exact .nilSl _ | exact .ownSl _ _ _  | exact SV.le.of_eq (by simp)) (Slots.cons rfl (by first | exact .refl _ | exact .nilOwn _ _ | exact .nilSl _ | exact .ownSl _ _ _  | exact SV.le.of_eq (by simp)) Slots.nil)))))))))), (List.Sublist.refl _)⟩, (by omega), ⟨j + 1, rfl, rfl, (by omega)⟩⟩
     ·
      obtain rfl : N = j := by have := of_decide_eq_false hc3; omega
      refine awp_exit ?_
      refine x_thenE ?_
      refine x_thenE ?_
      refine x_blockE ?_
      refine x_then ?_
      refine awp_region ?_
      rw [fillC_end]
      refine awl_imp (imp_commitS 0 10 (sz := 1) (l := u8s (List.replicate N v)) (ext := []) rfl rfl (List.append_nil _).symm (by rw [u8sL, List.length_replicate]) (Nat.le_refl _) (fun c hc => by obtain ⟨x, _, rfl⟩ := List.mem_map.1 hc; rfl) (by rw [bcel_flat, bcel_len, List.length_replicate, Nat.mul_one]) (by rw [bcel_flat]; exact List.all_eq_true.2 (fun c hc => by obtain ⟨x, _, rfl⟩ := List.mem_map.1 hc; rfl))) ?_
      refine r_move rfl rfl ?_
      refine r_move rfl rfl ?_
      refine r_ari _ rfl rfl rfl (wrap_id (by first | omega | (simp; omega))) rfl ?_
      refine r_conv (97 + (k : Int)) rfl TG.un3 TG.un21 (by rcases hkc with rfl | rfl | rfl | rfl <;> rfl) rfl ?_
      refine r_runeStr (⟨#[97 + k.toUInt8]⟩ : ByteArray) rfl TG.un21 TG.un9 (by rcases hkc with rfl | rfl | rfl | rfl <;> rfl) rfl ?_
      refine r_cat rfl rfl (by show (1 : Nat) + 1 ≤ _; omega) rfl ?_
      refine r_move rfl rfl ?_
      refine r_build (parts := [(0, .tmp 70), (1, .tmp 71)]) rfl TG.pl26 TG.zero26 rfl rfl rfl ?_
      refine r_lit 73 (parts := [(0, .tmp 72)]) rfl TG.sl24 TG.sz26 TG.zraw26 rfl rfl rfl rfl rfl rfl rfl ?_
      refine r_append 7 rfl (by first | exact .own _ | exact .nil) rfl (by first | exact .sl _ | exact .own _ _ | exact .nil) TG.sl24 TG.sz26 (by decide) TG.by26 TG.zlen26 (by rw [List.length_map, hll]; simp [chunks] <;> omega) (by rw [List.length_map, hll]; simp [chunks] <;> omega) rfl ?_
      refine r_assign rfl rfl ?_
      refine awl_nil ?_
      refine x_block ?_
      refine x_then ?_
      refine awp_region ?_
      refine r_ari _ rfl rfl rfl (wrap_id (by first | omega | (simp; omega))) rfl ?_
      refine r_move rfl rfl ?_
      refine awl_nil ?_
      refine x_then ?_
      refine ⟨long.length - (k + 1), ⟨200, [(1, .a (.v (.int .u8 (data.toNat)))), (2, .a (.v (.int .u8 (key.toNat)))), (7, .own 7 2 ((l0F (long.take (k + 1)) data).map File.cs)), (40, .a (bts long)), (41, .a (.v (.int .i64 ((u8s long).length)))), (42, .a (.v (.int .i64 (((k + 1) : Int)))))], []⟩, ⟨rfl, (Slots.cons rfl (by first | exact .refl _ | exact .nilOwn _ _ | exact .nilSl _ | exact .ownSl _ _ _  | exact SV.le.ownEq (by first | rfl | (rw [hst]; rfl)) | exact SV.le.of_eq (by first | rfl | (rw [hst]; rfl))) (Slots.cons rfl (by first | exact .refl _ | exact .nilOwn _ _ | exact .nilSl _ | exact .ownSl _ _ _  | exact SV.le.ownEq (by first | rfl | (rw [hst]; rfl)) | exact SV.le.of_eq (by first | rfl | (rw [hst]; rfl))) (Slots.cons rfl (by first | exact .refl _ | exact .nilOwn _ _ | exact .nilSl _ | exact .ownSl _ _ _  | exact SV.le.ownEq (by first | rfl | (rw [hst]; rfl)) | exact SV.le.of_eq (by first | rfl | (rw [hst]; rfl))) (Slots.cons rfl (by first | exact .refl _ | exact .nilOwn _ _ | exact .nilSl _ | exact .ownSl _ _ _  | exact SV.le.ownEq (by first | rfl | (rw [hst]; rfl)) | exact SV.le.of_eq (by first | rfl | (rw [hst]; rfl))) (Slots.cons rfl (by first | exact .refl _ | exact .nilOwn _ _ | exact .nilSl _ | exact .ownSl _ _ _  | exact SV.le.ownEq (by first | rfl | (rw [hst]; rfl)) | exact SV.le.of_eq (by first | rfl | (rw [hst]; rfl))) (Slots.cons rfl (by first | exact .refl _ | exact .nilOwn _ _ | exact .nilSl _ | exact .ownSl _ _ _  | exact SV.le.ownEq (by first | rfl | (rw [hst]; rfl)) | exact SV.le.of_eq (by first | rfl | (rw [hst]; rfl))) Slots.nil)))))), (List.nil_sublist _)⟩, (by omega), ⟨k + 1, rfl, rfl, (by omega)⟩⟩
    ·
     have hge : long.length ≤ k := by have := of_decide_eq_false hc2; rw [u8sL] at this; omega
     rw [List.take_of_length_le hge]
     have hran := ran_ok h4 data key
     have hLl : (l0F long data).length = long.length := l0_len long data
     obtain ⟨L, hL⟩ : ∃ L, L = l0F long data := ⟨_, rfl⟩
     rw [← hL] at hran hLl ⊢
     have hok := hran.ok
     obtain ⟨h8, hrt, hnd⟩ := okFs_un hok
     obtain ⟨hbn, hbd⟩ := okFs_bnd hok
     have hns : ∀ f ∈ L, f.name.size ≤ 1000000 := fun f hf => Nat.le_trans (hbn f hf) (by decide)
     have hds : ∀ f ∈ L, f.data.length ≤ 1000000 := fun f hf => Nat.le_trans (hbd f hf) (by decide)
     have hcd := cho_bnd hran
     have hsort := hran.sorted
     have hcl := choT_len L
     have hnl := numsT_len (L.length + 1)
     have hmt := momT_len key L (L.length + 1)
     have hTne : (momT key L L.length) ≠ [] := fun h => by
      have h9 : L.length = 0 := by have := congrArg List.length h; rwa [momT_len] at this
      omega
     refine awp_exit ?_
     refine x_thenE ?_
     refine x_thenE ?_
     refine x_blockE ?_
     refine x_then ?_
     refine awp_seq ?_
     refine awp_region ?_
     refine r_makeMap (ek := (Value.int .i64)) (ev := blkA) [] rfl rfl (fun b76 => ?_)
     refine r_alloc TG.zero27 rfl (fun b12 => ?_)
     refine r_store 0 rfl rfl rfl TG.sz27 rfl rfl rfl ?_
     refine awl_nil ?_
     refine x_then ?_
     refine awp_seq ?_
     refine awp_region ?_
     refine r_alloc TG.zero28 rfl (fun b13 => ?_)
     refine awl_nil ?_
     refine x_then ?_
     refine awp_seq ?_
     refine awp_region ?_
     refine r_makeFunc rfl (.cons (.ev rfl rfl) .nil) rfl ?_
     refine r_assign rfl rfl ?_
     refine awl_nil ?_
     refine x_then ?_
     refine awp_seq ?_
     refine awp_seq ?_
     refine awp_region ?_
     refine r_move rfl rfl ?_
     refine r_move rfl rfl ?_
     refine r_callPC hq MG hcs (wo := []) (un := [⟨b13, true, .box [.v ((.slice none 0 0))]⟩, ⟨b12, true, .box [.v (.map (some b76))]⟩, ⟨b76, true, .map (encM (Value.int .i64) blkA ([] : List (Int × Blk)))⟩]) rfl rfl (.cons (.ev rfl rfl) (.cons (.ev rfl rfl) (.cons (.ev rfl rfl) (.cons (.ev rfl rfl) .nil)))) (ransom_ok L hok key 5) rfl TG.en10 (List.Perm.refl _) (List.nil_sublist _) rfl (fun r nobjs hr => ?_)
     obtain ⟨h0, -, -⟩ | ⟨g3, cap3, rfl, rfl⟩ := hr
     · exact absurd (List.append_eq_nil_iff.1 (List.map_eq_nil_iff.1 h0)).1 (rows_ne (disk_ne _))
     refine awl_imp (imp_commitB 0 80 rfl rfl rfl) ?_
     obtain ⟨DS, hDS⟩ : ∃ DS, DS = rowsF (diskF L) ++ evsF (evR key 5 L) L.length := ⟨_, rfl⟩
     rw [← hDS]
     have hR0 : Runs [] [] DS (momT key L L.length) := by rw [hDS]; exact runs_host hok key _
     have hHas : Has (leftM (wsF DS)) (stepTo (lkG key) L L.length) := by rw [hDS]; exact has_step hok key _
     have hdl : DS.length ≤ 100000 := by rw [hDS]; exact evs_ds_len hok (evR_len key 5 L)
     have hws : ∀ d ∈ DS, d.ws.length ≤ 100000 := by rw [hDS]; exact ransom_ws key 5
     refine r_lenS rfl rfl TG.sl37 rfl ?_
     refine r_move rfl rfl ?_
     refine awl_nil ?_
     refine x_then ?_
     refine awp_block ?_
     refine awp_imp (imp_perm (objs := [⟨b12, true, .box [.v (.map (some b76))]⟩, ⟨b76, true, .map (encM (Value.int .i64) blkA ([] : List (Int × Blk)))⟩, ⟨b13, true, .box [.v ((.slice none 0 0))]⟩]) (List.perm_append_comm (l₁ := [_, _]) (l₂ := [_]))) ?_
     refine awp_loop (fun nn0 S => ∃ k : Nat, ∃ th : List (List File), ∃ w : Value, ∃ bf : List OE, S = ⟨200, [(7, .own 7 2 (L.map File.cs)), (12, .a (.v (.pointer (some ⟨b12, 0, none⟩)))), (13, .a (.v (.pointer (some ⟨b13, 0, none⟩)))), (14, .a (.fn 7 [.v (.pointer (some ⟨b12, 0, none⟩))])), (80, .a (deedsA DS)), (81, .a (.v (.int .i64 ((DS.map Deed.cs).length)))), (82, .a (.v (.int .i64 ((k : Int)))))], ⟨b12, true, .box [.v (.map (some b76))]⟩ :: ⟨b76, true, .map (encM (Value.int .i64) blkA (leftM (wsF (DS.take k))))⟩ :: ⟨b13, true, .box [.v (w)]⟩ :: bf⟩ ∧ nn0 = DS.length - k ∧ (k ≤ DS.length) ∧ (GrowF 24 th w bf) ∧ (Runs (DS.take k) th (DS.drop k) (momT key L L.length)) ∧ (th.length ≤ k)) (DS.length - (0)) ⟨200, [(7, .own 7 2 (L.map File.cs)), (12, .a (.v (.pointer (some ⟨b12, 0, none⟩)))), (13, .a (.v (.pointer (some ⟨b13, 0, none⟩)))), (14, .a (.fn 7 [.v (.pointer (some ⟨b12, 0, none⟩))])), (80, .a (deedsA DS)), (81, .a (.v (.int .i64 ((DS.map Deed.cs).length)))), (82, .a (.v (.int .i64 (((0) : Int)))))], ⟨b12, true, .box [.v (.map (some b76))]⟩ :: ⟨b76, true, .map (encM (Value.int .i64) blkA (leftM (wsF (DS.take (0)))))⟩ :: ⟨b13, true, .box [.v (((.slice none 0 0)))]⟩ :: ([])⟩ ⟨rfl, (Slots.cons rfl (by first | exact .refl _ | exact .nilOwn _ _ | exact .nilSl _ | exact .ownSl _ _ _  | exact SV.le.of_eq (by simp)) (Slots.cons rfl (by first | exact .refl _ | exact .nilOwn _ _ | exact .nilSl _ | exact .ownSl _ _ _  | exact SV.le.of_eq (by simp)) (Slots.cons rfl (by first | exact .refl _ | exact .nilOwn _ _ | exact .nilSl _ | exact .ownSl _ _ _  | exact SV.le.of_eq (by simp)) (Slots.cons rfl (by first | exact .refl _ | exact .nilOwn _ _ | exact .nilSl _ | exact .ownSl _ _ _  | exact SV.le.of_eq (by simp)) (Slots.cons rfl (by first | exact .refl _ | exact .nilOwn _ _ | exact .nilSl _ | exact .ownSl _ _ _  | exact SV.le.of_eq (by simp)) (Slots.cons rfl (by first | exact .refl _ | exact .nilOwn _ _ | exact .nilSl _ | exact .ownSl _ _ _  | exact SV.le.of_eq (by simp)) (Slots.cons rfl (by first | exact .refl _ | exact .nilOwn _ _ | exact .nilSl _ | exact .ownSl _ _ _  | exact SV.le.of_eq (by simp)) Slots.nil))))))), (List.Sublist.refl _)⟩ ⟨0, [], (.slice none 0 0), [], rfl, rfl, Nat.zero_le _, (.inl ⟨rfl, rfl, rfl⟩), (by rw [List.drop_zero]; exact hR0), (Nat.le_refl _)⟩ ?_
     rintro nn0 _ ⟨k, th, w, bf, rfl, rfl, hk, hg, hR, ht⟩
     refine awp_seq ?_
     refine awp_region ?_
     refine r_cmp rfl rfl rfl rfl ?_
     refine awl_nil ?_
     refine x_then ?_
     refine awp_seq ?_
     refine awp_cond rfl (fun hc4 => ?_) (fun hc4 => ?_)
     ·
      have hltx : k < DS.length := by have := of_decide_eq_true hc4; simpa using this
      obtain ⟨x, hx⟩ := get_lt hltx
      rw [drop_get hx] at hR
      have hRc := hR.cons
      rw [← takeS hx] at hRc
      have hxw := hws x (List.mem_of_getElem? hx)
      refine awp_skip ?_
      refine x_then ?_
      refine awp_seq ?_
      refine awp_block ?_
      refine awp_seq ?_
      refine awp_region ?_
      refine r_index rfl rfl rfl TG.sl37 TG.sz41 (by omega) (get_map hx) rfl ?_
      refine r_loadA rfl TG.agg41 TG.sz41 rfl rfl ?_
      refine r_alloc TG.zero41 rfl (fun b16 => ?_)
      refine r_store 0 rfl rfl rfl TG.sz41 rfl rfl rfl ?_
      refine awl_nil ?_
      refine x_then ?_
      refine awp_cut (fun S => ∃ th1 : List (List File), ∃ w1 : Value, ∃ bf1 : List OE, S = ⟨200, [(7, .own 7 2 (L.map File.cs)), (12, .a (.v (.pointer (some ⟨b12, 0, none⟩)))), (13, .a (.v (.pointer (some ⟨b13, 0, none⟩)))), (14, .a (.fn 7 [.v (.pointer (some ⟨b12, 0, none⟩))])), (80, .a (deedsA DS)), (81, .a (.v (.int .i64 ((DS.map Deed.cs).length)))), (82, .a (.v (.int .i64 ((k : Int))))), (16, .a (.cp (Deed.cs x)))], ⟨b12, true, .box [.v (.map (some b76))]⟩ :: ⟨b76, true, .map (encM (Value.int .i64) blkA (leftM (wsF (DS.take k))))⟩ :: ⟨b13, true, .box [.v (w1)]⟩ :: bf1⟩ ∧ (GrowF 24 th1 w1 bf1) ∧ (Runs (DS.take (k + 1)) th1 (DS.drop (k + 1)) (momT key L L.length)) ∧ (th1.length ≤ k + 1)) ?_ ?_
      ·
       refine awp_seq ?_
       refine awp_region ?_
       refine awl_imp (imp_commit 0 16 rfl rfl rfl rfl) ?_
       refine r_fieldcp rfl TG.f41_0 TG.sz3 rfl ?_
       refine r_load1 rfl TG.agg3 rfl ?_
       refine r_cmp rfl rfl rfl rfl ?_
       refine awl_nil ?_
       refine x_then ?_
       refine awp_cond rfl (fun hc5 => ?_) (fun hc5 => ?_)
       ·
        have hk2 : x.kind = 2 := eq_of_beq hc5
        obtain ⟨hne, -⟩ | ⟨-, f, hf, hR1⟩ := hRc
        · exact absurd hk2 hne
        obtain ⟨rfl, rfl, rfl⟩ | ⟨h0, g, cap, rfl, rfl⟩ := hg
        ·
         refine awp_drawS [89, 90, 91, 92] [_, _, _, _] [] [(3, 92)] TG.mixed rfl rfl rfl ⟨⟨⟨⟨trivial
          , ⟨_, rfl, fun sl hd hr ho => by
            refine r_load1b 2 (hr 13 _ rfl rfl rfl) rfl rfl TG.agg28 rfl ?_
            exact awl_nil ⟨rfl, post_put⟩⟩⟩
          , ⟨_, rfl, fun sl hd hr ho => by
            refine r_move (hr 14 _ rfl rfl rfl) rfl ?_
            exact awl_nil ⟨rfl, post_put⟩⟩⟩
          , ⟨_, rfl, fun sl hd hr ho => by
            refine r_callPC hq MG hcs (wo := []) (un := [⟨b12, true, .box [.v (.map (some b76))]⟩, ⟨b76, true, .map (encM (Value.int .i64) blkA (leftM (wsF (DS.take k))))⟩, ⟨b13, true, .box [.v ((.slice none 0 0))]⟩]) (hd 1 _ rfl rfl rfl) rfl .nil (mount_ok f (leftM (wsF (DS.take k))) hf) rfl TG.en7 (List.Perm.refl _) (.cons_cons _ (.cons_cons _ (List.nil_sublist _))) rfl (fun r nobjs hr => ?_)
            obtain ⟨rfl, rfl⟩ := hr
            exact awl_nil ⟨rfl, post_put⟩⟩⟩
          , ⟨_, rfl, fun sl hd hr ho => by
            refine r_lit 92 (parts := [(0, .tmp 91)]) rfl TG.sl28 TG.sz24 TG.zraw24 rfl rfl (parts_cons (hd 2 _ rfl rfl rfl) parts_nil) rfl rfl rfl rfl ?_
            exact awl_nil ⟨rfl, (post_dem (ho 92 (List.mem_of_elem_eq_true rfl)))⟩⟩⟩
          (by rfl) ?_
         refine r_appendBN rfl rfl (by first | exact .sl _ | exact .own _ _) (by simp [chunks]) TG.sl28 TG.sz24 TG.by24 TG.zlen24 (by simp [chunks] <;> omega) (by simp [chunks] <;> omega) rfl (fun gb gc => ?_)
         refine awl_imp (imp_perm (objs := [_, _, _, _]) (List.perm_append_comm (l₁ := [_, _, _]) (l₂ := [_]))) ?_
         refine r_store 2 rfl rfl rfl TG.sz28 rfl rfl rfl ?_
         refine awl_nil ?_
         refine x_then ?_
         refine ⟨⟨200, [(7, .own 7 2 (L.map File.cs)), (12, .a (.v (.pointer (some ⟨b12, 0, none⟩)))), (13, .a (.v (.pointer (some ⟨b13, 0, none⟩)))), (14, .a (.fn 7 [.v (.pointer (some ⟨b12, 0, none⟩))])), (80, .a (deedsA DS)), (81, .a (.v (.int .i64 ((DS.map Deed.cs).length)))), (82, .a (.v (.int .i64 ((k : Int))))), (16, .a (.cp (Deed.cs x)))], ⟨b12, true, .box [.v (.map (some b76))]⟩ :: ⟨b76, true, .map (encM (Value.int .i64) blkA (leftM (wsF (DS.take k))))⟩ :: ⟨b13, true, .box [.v (((.slice (some ⟨gb, 0, none⟩) ((([] ++ [f] : List (List File))).map rowFs).length gc)))]⟩ :: ([⟨gb, true, .buf 1 ((([] ++ [f] : List (List File))).map rowFs) gc 24⟩])⟩, ⟨rfl, (Slots.cons rfl (by first | exact .refl _ | exact .nilOwn _ _ | exact .nilSl _ | exact .ownSl _ _ _  | exact SV.le.of_eq (by simp)) (Slots.cons rfl (by first | exact .refl _ | exact .nilOwn _ _ | exact .nilSl _ | exact .ownSl _ _ _  | exact SV.le.of_eq (by simp)) (Slots.cons rfl (by first | exact .refl _ | exact .nilOwn _ _ | exact .nilSl _ | exact .ownSl _ _ _  | exact SV.le.of_eq (by simp)) (Slots.cons rfl (by first | exact .refl _ | exact .nilOwn _ _ | exact .nilSl _ | exact .ownSl _ _ _  | exact SV.le.of_eq (by simp)) (Slots.cons rfl (by first | exact .refl _ | exact .nilOwn _ _ | exact .nilSl _ | exact .ownSl _ _ _  | exact SV.le.of_eq (by simp)) (Slots.cons rfl (by first | exact .refl _ | exact .nilOwn _ _ | exact .nilSl _ | exact .ownSl _ _ _  | exact SV.le.of_eq (by simp)) (Slots.cons rfl (by first | exact .refl _ | exact .nilOwn _ _ | exact .nilSl _ | exact .ownSl _ _ _  | exact SV.le.of_eq (by simp)) (Slots.cons rfl (by first | exact .refl _ | exact .nilOwn _ _ | exact .nilSl _ | exact .ownSl _ _ _  | exact SV.le.of_eq (by simp)) Slots.nil)))))))), (by first | exact List.Sublist.refl _ | (rw [List.map_append]; exact List.Sublist.refl _))⟩, ⟨([] ++ [f]), (.slice (some ⟨gb, 0, none⟩) ((([] ++ [f] : List (List File))).map rowFs).length gc), [⟨gb, true, .buf 1 ((([] ++ [f] : List (List File))).map rowFs) gc 24⟩], rfl, (.inr ⟨by simp, gb, gc, rfl, rfl⟩), hR1, (by simp)⟩⟩
        ·
         refine awp_drawS [89, 90, 91, 92] [_, _, _, _] [] [(3, 92)] TG.mixed rfl rfl rfl ⟨⟨⟨⟨trivial
          , ⟨_, rfl, fun sl hd hr ho => by
            refine r_load1b 2 (hr 13 _ rfl rfl rfl) rfl rfl TG.agg28 rfl ?_
            exact awl_nil ⟨rfl, post_put⟩⟩⟩
          , ⟨_, rfl, fun sl hd hr ho => by
            refine r_move (hr 14 _ rfl rfl rfl) rfl ?_
            exact awl_nil ⟨rfl, post_put⟩⟩⟩
          , ⟨_, rfl, fun sl hd hr ho => by
            refine r_callPC hq MG hcs (wo := []) (un := [⟨b12, true, .box [.v (.map (some b76))]⟩, ⟨b76, true, .map (encM (Value.int .i64) blkA (leftM (wsF (DS.take k))))⟩, ⟨b13, true, .box [.v ((.slice (some ⟨g, 0, none⟩) (th.map rowFs).length cap))]⟩, ⟨g, true, .buf 1 (th.map rowFs) cap 24⟩]) (hd 1 _ rfl rfl rfl) rfl .nil (mount_ok f (leftM (wsF (DS.take k))) hf) rfl TG.en7 (List.Perm.refl _) (.cons_cons _ (.cons_cons _ (List.nil_sublist _))) rfl (fun r nobjs hr => ?_)
            obtain ⟨rfl, rfl⟩ := hr
            exact awl_nil ⟨rfl, post_put⟩⟩⟩
          , ⟨_, rfl, fun sl hd hr ho => by
            refine r_lit 92 (parts := [(0, .tmp 91)]) rfl TG.sl28 TG.sz24 TG.zraw24 rfl rfl (parts_cons (hd 2 _ rfl rfl rfl) parts_nil) rfl rfl rfl rfl ?_
            exact awl_nil ⟨rfl, (post_dem (ho 92 (List.mem_of_elem_eq_true rfl)))⟩⟩⟩
          (by rfl) ?_
         refine r_appendBG 3 rfl rfl rfl rfl (by first | exact .sl _ | exact .own _ _) (by simp [chunks]) TG.sl28 TG.sz24 TG.by24 TG.zlen24 (by simp [chunks] <;> omega) (by simp [chunks] <;> omega) rfl (fun gb gc => ?_)
         refine awl_imp (imp_perm (objs := [_, _, _, _]) (List.perm_append_comm (l₁ := [_, _, _]) (l₂ := [_]))) ?_
         refine r_store 2 rfl rfl rfl TG.sz28 rfl rfl rfl ?_
         refine awl_nil ?_
         refine x_then ?_
         refine ⟨⟨200, [(7, .own 7 2 (L.map File.cs)), (12, .a (.v (.pointer (some ⟨b12, 0, none⟩)))), (13, .a (.v (.pointer (some ⟨b13, 0, none⟩)))), (14, .a (.fn 7 [.v (.pointer (some ⟨b12, 0, none⟩))])), (80, .a (deedsA DS)), (81, .a (.v (.int .i64 ((DS.map Deed.cs).length)))), (82, .a (.v (.int .i64 ((k : Int))))), (16, .a (.cp (Deed.cs x)))], ⟨b12, true, .box [.v (.map (some b76))]⟩ :: ⟨b76, true, .map (encM (Value.int .i64) blkA (leftM (wsF (DS.take k))))⟩ :: ⟨b13, true, .box [.v (((.slice (some ⟨gb, 0, none⟩) ((th ++ [f]).map rowFs).length gc)))]⟩ :: ([⟨gb, true, .buf 1 ((th ++ [f]).map rowFs) gc 24⟩])⟩, ⟨rfl, (Slots.cons rfl (by first | exact .refl _ | exact .nilOwn _ _ | exact .nilSl _ | exact .ownSl _ _ _  | exact SV.le.of_eq (by simp)) (Slots.cons rfl (by first | exact .refl _ | exact .nilOwn _ _ | exact .nilSl _ | exact .ownSl _ _ _  | exact SV.le.of_eq (by simp)) (Slots.cons rfl (by first | exact .refl _ | exact .nilOwn _ _ | exact .nilSl _ | exact .ownSl _ _ _  | exact SV.le.of_eq (by simp)) (Slots.cons rfl (by first | exact .refl _ | exact .nilOwn _ _ | exact .nilSl _ | exact .ownSl _ _ _  | exact SV.le.of_eq (by simp)) (Slots.cons rfl (by first | exact .refl _ | exact .nilOwn _ _ | exact .nilSl _ | exact .ownSl _ _ _  | exact SV.le.of_eq (by simp)) (Slots.cons rfl (by first | exact .refl _ | exact .nilOwn _ _ | exact .nilSl _ | exact .ownSl _ _ _  | exact SV.le.of_eq (by simp)) (Slots.cons rfl (by first | exact .refl _ | exact .nilOwn _ _ | exact .nilSl _ | exact .ownSl _ _ _  | exact SV.le.of_eq (by simp)) (Slots.cons rfl (by first | exact .refl _ | exact .nilOwn _ _ | exact .nilSl _ | exact .ownSl _ _ _  | exact SV.le.of_eq (by simp)) Slots.nil)))))))), (by first | exact List.Sublist.refl _ | (rw [List.map_append]; exact List.Sublist.refl _))⟩, ⟨(th ++ [f]), (.slice (some ⟨gb, 0, none⟩) ((th ++ [f]).map rowFs).length gc), [⟨gb, true, .buf 1 ((th ++ [f]).map rowFs) gc 24⟩], rfl, (.inr ⟨by simp, gb, gc, rfl, rfl⟩), hR1, (by rw [List.length_append]; simp; omega)⟩⟩
       ·
        obtain ⟨-, hR1⟩ | ⟨hk2, -⟩ := hRc
        rotate_left
        · rw [hk2] at hc5; exact absurd hc5 (by decide)
        refine awp_skip ?_
        refine x_then ?_
        refine ⟨⟨200, [(7, .own 7 2 (L.map File.cs)), (12, .a (.v (.pointer (some ⟨b12, 0, none⟩)))), (13, .a (.v (.pointer (some ⟨b13, 0, none⟩)))), (14, .a (.fn 7 [.v (.pointer (some ⟨b12, 0, none⟩))])), (80, .a (deedsA DS)), (81, .a (.v (.int .i64 ((DS.map Deed.cs).length)))), (82, .a (.v (.int .i64 ((k : Int))))), (16, .a (.cp (Deed.cs x)))], ⟨b12, true, .box [.v (.map (some b76))]⟩ :: ⟨b76, true, .map (encM (Value.int .i64) blkA (leftM (wsF (DS.take k))))⟩ :: ⟨b13, true, .box [.v ((w))]⟩ :: (bf)⟩, ⟨rfl, (Slots.cons rfl (by first | exact .refl _ | exact .nilOwn _ _ | exact .nilSl _ | exact .ownSl _ _ _  | exact SV.le.of_eq (by simp)) (Slots.cons rfl (by first | exact .refl _ | exact .nilOwn _ _ | exact .nilSl _ | exact .ownSl _ _ _  | exact SV.le.of_eq (by simp)) (Slots.cons rfl (by first | exact .refl _ | exact .nilOwn _ _ | exact .nilSl _ | exact .ownSl _ _ _  | exact SV.le.of_eq (by simp)) (Slots.cons rfl (by first | exact .refl _ | exact .nilOwn _ _ | exact .nilSl _ | exact .ownSl _ _ _  | exact SV.le.of_eq (by simp)) (Slots.cons rfl (by first | exact .refl _ | exact .nilOwn _ _ | exact .nilSl _ | exact .ownSl _ _ _  | exact SV.le.of_eq (by simp)) (Slots.cons rfl (by first | exact .refl _ | exact .nilOwn _ _ | exact .nilSl _ | exact .ownSl _ _ _  | exact SV.le.of_eq (by simp)) (Slots.cons rfl (by first | exact .refl _ | exact .nilOwn _ _ | exact .nilSl _ | exact .ownSl _ _ _  | exact SV.le.of_eq (by simp)) (Slots.cons rfl (by first | exact .refl _ | exact .nilOwn _ _ | exact .nilSl _ | exact .ownSl _ _ _  | exact SV.le.of_eq (by simp)) Slots.nil)))))))), (by first | exact List.Sublist.refl _ | (rw [List.map_append]; exact List.Sublist.refl _))⟩, ⟨th, w, bf, rfl, hg, hR1, (by omega)⟩⟩
      ·
       rintro _ ⟨th1, w1, bf1, rfl, hg1, hR2, ht1⟩
       refine awp_seq ?_
       refine awp_region ?_
       refine r_fieldcp rfl TG.f41_1 TG.sz39 rfl ?_
       refine r_load1 rfl TG.agg39 rfl ?_
       refine r_lenS rfl rfl TG.sl39 rfl ?_
       refine r_move rfl rfl ?_
       refine awl_nil ?_
       refine x_then ?_
       refine awp_block ?_
       refine awp_loop (fun nn0 S => ∃ j : Nat, S = ⟨200, [(7, .own 7 2 (L.map File.cs)), (12, .a (.v (.pointer (some ⟨b12, 0, none⟩)))), (13, .a (.v (.pointer (some ⟨b13, 0, none⟩)))), (14, .a (.fn 7 [.v (.pointer (some ⟨b12, 0, none⟩))])), (80, .a (deedsA DS)), (81, .a (.v (.int .i64 ((DS.map Deed.cs).length)))), (82, .a (.v (.int .i64 ((k : Int))))), (95, .a (wrsA x.ws)), (96, .a (.v (.int .i64 ((x.ws.map wrC).length)))), (97, .a (.v (.int .i64 ((j : Int)))))], ⟨b12, true, .box [.v (.map (some b76))]⟩ :: ⟨b76, true, .map (encM (Value.int .i64) blkA (leftM (wsF (DS.take k) ++ x.ws.take j)))⟩ :: ⟨b13, true, .box [.v (w1)]⟩ :: bf1⟩ ∧ nn0 = x.ws.length - j ∧ (j ≤ x.ws.length)) (x.ws.length - (0)) ⟨200, [(7, .own 7 2 (L.map File.cs)), (12, .a (.v (.pointer (some ⟨b12, 0, none⟩)))), (13, .a (.v (.pointer (some ⟨b13, 0, none⟩)))), (14, .a (.fn 7 [.v (.pointer (some ⟨b12, 0, none⟩))])), (80, .a (deedsA DS)), (81, .a (.v (.int .i64 ((DS.map Deed.cs).length)))), (82, .a (.v (.int .i64 ((k : Int))))), (95, .a (wrsA x.ws)), (96, .a (.v (.int .i64 ((x.ws.map wrC).length)))), (97, .a (.v (.int .i64 (((0) : Int)))))], ⟨b12, true, .box [.v (.map (some b76))]⟩ :: ⟨b76, true, .map (encM (Value.int .i64) blkA (leftM (wsF (DS.take k) ++ x.ws.take (0))))⟩ :: ⟨b13, true, .box [.v (w1)]⟩ :: bf1⟩ ⟨rfl, (Slots.cons rfl (by first | exact .refl _ | exact .nilOwn _ _ | exact .nilSl _ | exact .ownSl _ _ _  | exact SV.le.of_eq (by simp)) (Slots.cons rfl (by first | exact .refl _ | exact .nilOwn _ _ | exact .nilSl _ | exact .ownSl _ _ _  | exact SV.le.of_eq (by simp)) (Slots.cons rfl (by first | exact .refl _ | exact .nilOwn _ _ | exact .nilSl _ | exact .ownSl _ _ _  | exact SV.le.of_eq (by simp)) (Slots.cons rfl (by first | exact .refl _ | exact .nilOwn _ _ | exact .nilSl _ | exact .ownSl _ _ _  | exact SV.le.of_eq (by simp)) (Slots.cons rfl (by first | exact .refl _ | exact .nilOwn _ _ | exact .nilSl _ | exact .ownSl _ _ _  | exact SV.le.of_eq (by simp)) (Slots.cons rfl (by first | exact .refl _ | exact .nilOwn _ _ | exact .nilSl _ | exact .ownSl _ _ _  | exact SV.le.of_eq (by simp)) (Slots.cons rfl (by first | exact .refl _ | exact .nilOwn _ _ | exact .nilSl _ | exact .ownSl _ _ _  | exact SV.le.of_eq (by simp)) (Slots.cons rfl (by first | exact .refl _ | exact .nilOwn _ _ | exact .nilSl _ | exact .ownSl _ _ _  | exact SV.le.of_eq (by simp)) (Slots.cons rfl (by first | exact .refl _ | exact .nilOwn _ _ | exact .nilSl _ | exact .ownSl _ _ _  | exact SV.le.of_eq (by simp)) (Slots.cons rfl (by first | exact .refl _ | exact .nilOwn _ _ | exact .nilSl _ | exact .ownSl _ _ _  | exact SV.le.of_eq (by simp)) Slots.nil)))))))))), (by rw [List.take_zero, List.append_nil]; exact List.Sublist.refl _)⟩ ⟨0, rfl, rfl, Nat.zero_le _⟩ ?_
       rintro nn0 _ ⟨j, rfl, rfl, hj⟩
       refine awp_seq ?_
       refine awp_region ?_
       refine r_cmp rfl rfl rfl rfl ?_
       refine awl_nil ?_
       refine x_then ?_
       refine awp_seq ?_
       refine awp_cond rfl (fun hc6 => ?_) (fun hc6 => ?_)
       ·
        have hlty : j < x.ws.length := by have := of_decide_eq_true hc6; simpa using this
        obtain ⟨y, hy⟩ := get_lt hlty
        refine awp_skip ?_
        refine x_then ?_
        refine awp_seq ?_
        refine awp_block ?_
        refine awp_seq ?_
        refine awp_region ?_
        refine r_index rfl rfl rfl TG.sl39 TG.sz45 (by omega) (get_map hy) rfl ?_
        refine r_loadA rfl TG.agg45 TG.sz45 rfl rfl ?_
        refine r_alloc TG.zero45 rfl (fun b18 => ?_)
        refine r_store 0 rfl rfl rfl TG.sz45 rfl rfl rfl ?_
        refine awl_nil ?_
        refine x_then ?_
        refine awp_region ?_
        refine r_load1b 1 rfl rfl rfl TG.agg27 rfl ?_
        refine r_fieldb rfl TG.f45_0 TG.sz43 rfl ?_
        refine r_fieldb rfl TG.f43_2 TG.sz3 rfl ?_
        refine r_load1b 0 rfl rfl rfl TG.agg3 rfl ?_
        refine r_fieldb rfl TG.f45_1 TG.sz33 rfl ?_
        refine r_loadAbe 0 (blkC y.2) rfl rfl rfl TG.agg33 TG.sz33 rfl rfl ?_
        refine r_mapUpdate 2 (keyEnc_int (q := .i64) TG.un3) (ev := blkA) y.2 rfl rfl rfl rfl rfl TG.map27 ?_
        refine awl_nil ?_
        refine x_block ?_
        refine x_then ?_
        refine awp_region ?_
        refine r_ari _ rfl rfl rfl (wrap_id (by first | omega | (simp; omega))) rfl ?_
        refine r_move rfl rfl ?_
        refine awl_nil ?_
        refine x_then ?_
        refine ⟨x.ws.length - (j + 1), ⟨200, [(7, .own 7 2 (L.map File.cs)), (12, .a (.v (.pointer (some ⟨b12, 0, none⟩)))), (13, .a (.v (.pointer (some ⟨b13, 0, none⟩)))), (14, .a (.fn 7 [.v (.pointer (some ⟨b12, 0, none⟩))])), (80, .a (deedsA DS)), (81, .a (.v (.int .i64 ((DS.map Deed.cs).length)))), (82, .a (.v (.int .i64 ((k : Int))))), (95, .a (wrsA x.ws)), (96, .a (.v (.int .i64 ((x.ws.map wrC).length)))), (97, .a (.v (.int .i64 (((j + 1) : Int)))))], ⟨b12, true, .box [.v (.map (some b76))]⟩ :: ⟨b76, true, .map (encM (Value.int .i64) blkA (leftM (wsF (DS.take k) ++ x.ws.take (j + 1))))⟩ :: ⟨b13, true, .box [.v (w1)]⟩ :: bf1⟩, ⟨rfl, (Slots.cons rfl (by first | exact .refl _ | exact .nilOwn _ _ | exact .nilSl _ | exact .ownSl _ _ _  | exact SV.le.of_eq (by simp)) (Slots.cons rfl (by first | exact .refl _ | exact .nilOwn _ _ | exact .nilSl _ | exact .ownSl _ _ _  | exact SV.le.of_eq (by simp)) (Slots.cons rfl (by first | exact .refl _ | exact .nilOwn _ _ | exact .nilSl _ | exact .ownSl _ _ _  | exact SV.le.of_eq (by simp)) (Slots.cons rfl (by first | exact .refl _ | exact .nilOwn _ _ | exact .nilSl _ | exact .ownSl _ _ _  | exact SV.le.of_eq (by simp)) (Slots.cons rfl (by first | exact .refl _ | exact .nilOwn _ _ | exact .nilSl _ | exact .ownSl _ _ _  | exact SV.le.of_eq (by simp)) (Slots.cons rfl (by first | exact .refl _ | exact .nilOwn _ _ | exact .nilSl _ | exact .ownSl _ _ _  | exact SV.le.of_eq (by simp)) (Slots.cons rfl (by first | exact .refl _ | exact .nilOwn _ _ | exact .nilSl _ | exact .ownSl _ _ _  | exact SV.le.of_eq (by simp)) (Slots.cons rfl (by first | exact .refl _ | exact .nilOwn _ _ | exact .nilSl _ | exact .ownSl _ _ _  | exact SV.le.of_eq (by simp)) (Slots.cons rfl (by first | exact .refl _ | exact .nilOwn _ _ | exact .nilSl _ | exact .ownSl _ _ _  | exact SV.le.of_eq (by simp)) (Slots.cons rfl (by first | exact .refl _ | exact .nilOwn _ _ | exact .nilSl _ | exact .ownSl _ _ _  | exact SV.le.of_eq (by simp)) Slots.nil)))))))))), (by rw [left_step hy]; exact .cons _ (.refl _))⟩, (by omega), ⟨j + 1, rfl, rfl, (by omega)⟩⟩
       ·
        have hge : x.ws.length ≤ j := by have := of_decide_eq_false hc6; simp at this; omega
        have hjl : x.ws.take j = x.ws := List.take_of_length_le hge
        refine awp_exit ?_
        refine x_thenE ?_
        refine x_thenE ?_
        refine x_blockE ?_
        refine x_block ?_
        refine x_then ?_
        refine awp_region ?_
        refine r_ari _ rfl rfl rfl (wrap_id (by first | omega | (simp; omega))) rfl ?_
        refine r_move rfl rfl ?_
        refine awl_nil ?_
        refine x_then ?_
        refine ⟨DS.length - (k + 1), ⟨200, [(7, .own 7 2 (L.map File.cs)), (12, .a (.v (.pointer (some ⟨b12, 0, none⟩)))), (13, .a (.v (.pointer (some ⟨b13, 0, none⟩)))), (14, .a (.fn 7 [.v (.pointer (some ⟨b12, 0, none⟩))])), (80, .a (deedsA DS)), (81, .a (.v (.int .i64 ((DS.map Deed.cs).length)))), (82, .a (.v (.int .i64 (((k + 1) : Int)))))], ⟨b12, true, .box [.v (.map (some b76))]⟩ :: ⟨b76, true, .map (encM (Value.int .i64) blkA (leftM (wsF (DS.take (k + 1)))))⟩ :: ⟨b13, true, .box [.v ((w1))]⟩ :: (bf1)⟩, ⟨rfl, (Slots.cons rfl (by first | exact .refl _ | exact .nilOwn _ _ | exact .nilSl _ | exact .ownSl _ _ _  | exact SV.le.of_eq (by simp)) (Slots.cons rfl (by first | exact .refl _ | exact .nilOwn _ _ | exact .nilSl _ | exact .ownSl _ _ _  | exact SV.le.of_eq (by simp)) (Slots.cons rfl (by first | exact .refl _ | exact .nilOwn _ _ | exact .nilSl _ | exact .ownSl _ _ _  | exact SV.le.of_eq (by simp)) (Slots.cons rfl (by first | exact .refl _ | exact .nilOwn _ _ | exact .nilSl _ | exact .ownSl _ _ _  | exact SV.le.of_eq (by simp)) (Slots.cons rfl (by first | exact .refl _ | exact .nilOwn _ _ | exact .nilSl _ | exact .ownSl _ _ _  | exact SV.le.of_eq (by simp)) (Slots.cons rfl (by first | exact .refl _ | exact .nilOwn _ _ | exact .nilSl _ | exact .ownSl _ _ _  | exact SV.le.of_eq (by simp)) (Slots.cons rfl (by first | exact .refl _ | exact .nilOwn _ _ | exact .nilSl _ | exact .ownSl _ _ _  | exact SV.le.of_eq (by simp)) Slots.nil))))))), (by rw [left_row hx, hjl]; exact List.Sublist.refl _)⟩, (by omega), ⟨k + 1, th1, w1, bf1, rfl, rfl, (by omega), hg1, hR2, ht1⟩⟩
     ·
      have hge : DS.length ≤ k := by have := of_decide_eq_false hc4; simp at this; omega
      rw [List.take_of_length_le hge, List.drop_of_length_le hge] at hR
      obtain rfl := hR.end
      rw [List.take_of_length_le hge]
      obtain ⟨h0, -, -⟩ | ⟨-, g, cap, rfl, rfl⟩ := hg
      · exact absurd h0 hTne
      refine awp_exit ?_
      refine x_thenE ?_
      refine x_thenE ?_
      refine x_blockE ?_
      refine x_then ?_
      refine awp_seq ?_
      refine awp_drawS [109, 110, 111, 112] [_, _, _, _] [] [(3, 112)] TG.mixed rfl rfl rfl ⟨⟨⟨⟨trivial
       , ⟨_, rfl, fun sl hd hr ho => by
         refine r_load1b 2 (hr 13 _ rfl rfl rfl) rfl rfl TG.agg28 rfl ?_
         exact awl_nil ⟨rfl, post_put⟩⟩⟩
       , ⟨_, rfl, fun sl hd hr ho => by
         refine r_move (hr 14 _ rfl rfl rfl) rfl ?_
         exact awl_nil ⟨rfl, post_put⟩⟩⟩
       , ⟨_, rfl, fun sl hd hr ho => by
         refine r_callPC hq MG hcs (wo := []) (un := [⟨b12, true, .box [.v (.map (some b76))]⟩, ⟨b76, true, .map (encM (Value.int .i64) blkA (leftM (wsF DS)))⟩, ⟨b13, true, .box [.v ((.slice (some ⟨g, 0, none⟩) ((momT key L L.length).map rowFs).length cap))]⟩, ⟨g, true, .buf 1 ((momT key L L.length).map rowFs) cap 24⟩]) (hd 1 _ rfl rfl rfl) rfl .nil (mount_ok (stepTo (lkG key) L L.length) (leftM (wsF DS)) hHas) rfl TG.en7 (List.Perm.refl _) (.cons_cons _ (.cons_cons _ (List.nil_sublist _))) rfl (fun r nobjs hr => ?_)
         obtain ⟨rfl, rfl⟩ := hr
         exact awl_nil ⟨rfl, post_put⟩⟩⟩
       , ⟨_, rfl, fun sl hd hr ho => by
         refine r_lit 112 (parts := [(0, .tmp 111)]) rfl TG.sl28 TG.sz24 TG.zraw24 rfl rfl (parts_cons (hd 2 _ rfl rfl rfl) parts_nil) rfl rfl rfl rfl ?_
         exact awl_nil ⟨rfl, (post_dem (ho 112 (List.mem_of_elem_eq_true rfl)))⟩⟩⟩
       (by rfl) ?_
      refine r_appendBG 3 rfl rfl rfl rfl (by first | exact .sl _ | exact .own _ _) (by simp [chunks]) TG.sl28 TG.sz24 TG.by24 TG.zlen24 (by simp [chunks, momT_len] <;> omega) (by simp [chunks, momT_len] <;> omega) rfl (fun gb gc => ?_)
      refine awl_imp (imp_perm (objs := [_, _, _, _]) (List.perm_append_comm (l₁ := [_, _, _]) (l₂ := [_]))) ?_
      refine r_store 2 rfl rfl rfl TG.sz28 rfl rfl rfl ?_
      refine awl_nil ?_
      refine x_then ?_
      refine awp_seq ?_
      refine awp_region ?_
      refine r_assign rfl rfl ?_
      refine awl_nil ?_
      refine x_then ?_
      refine awp_seq ?_
      refine awp_seq ?_
      refine awp_region ?_
      refine awl_imp (imp_commitBx 3 2 rfl rfl rfl) ?_
      refine awl_imp (imp_commit 2 13 rfl rfl rfl rfl) ?_
      refine r_load1 rfl TG.agg28 rfl ?_
      refine r_lenS rfl rfl TG.sl28 rfl ?_
      refine r_move rfl rfl ?_
      refine awl_nil ?_
      refine x_then ?_
      refine awp_block ?_
      refine awp_loop (fun nn0 S => ∃ i : Nat, S = ⟨200, [(7, .own 7 2 (L.map File.cs)), (13, .a (.cp [.sl 1 ((momT key L (L.length + 1)).map rowFs)])), (19, .own 19 1 ((numsT i).map fun x => [AV.v (.int .u64 x)])), (115, .a (.v (.int .i64 (((momT key L (L.length + 1)).map rowFs).length)))), (116, .a (.v (.int .i64 ((i : Int)))))], []⟩ ∧ nn0 = L.length + 1 - i ∧ (i ≤ L.length + 1)) (L.length + 1 - (0)) ⟨200, [(7, .own 7 2 (L.map File.cs)), (13, .a (.cp [.sl 1 ((momT key L (L.length + 1)).map rowFs)])), (19, .own 19 1 ((numsT (0)).map fun x => [AV.v (.int .u64 x)])), (115, .a (.v (.int .i64 (((momT key L (L.length + 1)).map rowFs).length)))), (116, .a (.v (.int .i64 (((0) : Int)))))], []⟩ ⟨rfl, (Slots.cons rfl (by first | exact .refl _ | exact .nilOwn _ _ | exact .nilSl _ | exact .ownSl _ _ _  | exact SV.le.ownEq (by first | rfl | (rw [momT_snoc, List.map_append]; rfl)) | exact SV.le.of_eq (by first | rfl | (rw [momT_snoc, List.map_append]; rfl))) (Slots.cons rfl (by first | exact .refl _ | exact .nilOwn _ _ | exact .nilSl _ | exact .ownSl _ _ _  | exact SV.le.ownEq (by first | rfl | (rw [momT_snoc, List.map_append]; rfl)) | exact SV.le.of_eq (by first | rfl | (rw [momT_snoc, List.map_append]; rfl))) (Slots.cons rfl (by first | exact .refl _ | exact .nilOwn _ _ | exact .nilSl _ | exact .ownSl _ _ _  | exact SV.le.ownEq (by first | rfl | (rw [momT_snoc, List.map_append]; rfl)) | exact SV.le.of_eq (by first | rfl | (rw [momT_snoc, List.map_append]; rfl))) (Slots.cons rfl (by first | exact .refl _ | exact .nilOwn _ _ | exact .nilSl _ | exact .ownSl _ _ _  | exact SV.le.ownEq (by first | rfl | (rw [momT_snoc, List.map_append]; rfl)) | exact SV.le.of_eq (by first | rfl | (rw [momT_snoc, List.map_append]; rfl))) (Slots.cons rfl (by first | exact .refl _ | exact .nilOwn _ _ | exact .nilSl _ | exact .ownSl _ _ _  | exact SV.le.ownEq (by first | rfl | (rw [momT_snoc, List.map_append]; rfl)) | exact SV.le.of_eq (by first | rfl | (rw [momT_snoc, List.map_append]; rfl))) Slots.nil))))), (List.nil_sublist _)⟩ ⟨0, rfl, rfl, Nat.zero_le _⟩ ?_
      rintro nn0 _ ⟨i, rfl, rfl, hi⟩
      refine awp_seq ?_
      refine awp_region ?_
      refine r_cmp rfl rfl rfl rfl ?_
      refine awl_nil ?_
      refine x_then ?_
      refine awp_seq ?_
      refine awp_cond rfl (fun hc7 => ?_) (fun hc7 => ?_)
      ·
       have hlti : i < L.length + 1 := by have := of_decide_eq_true hc7; rw [List.length_map, momT_len] at this; omega
       have hni := numsT_len i
       refine awp_skip ?_
       refine x_then ?_
       refine awp_seq ?_
       refine awp_block ?_
       refine awp_seq ?_
       refine awp_region ?_
       refine r_move rfl rfl ?_
       refine r_assign rfl rfl ?_
       refine awl_nil ?_
       refine x_then ?_
       refine awp_region ?_
       refine r_move rfl rfl ?_
       refine r_move rfl rfl ?_
       refine r_ari _ rfl rfl rfl (wrap_id (by first | omega | (simp; omega))) rfl ?_
       refine r_conv ((i + 1 : Nat) : Int) rfl TG.un3 TG.un47 (by rw [wrap_u64 (by omega)]; omega) rfl ?_
       refine r_lit 123 (parts := [(0, .tmp 122)]) rfl TG.sl46 TG.sz47 TG.zraw47 rfl rfl rfl rfl rfl rfl rfl ?_
       refine r_append 19 rfl (by first | exact .own _ | exact .nil) rfl (by first | exact .sl _ | exact .own _ _ | exact .nil) TG.sl46 TG.sz47 (by decide) TG.by47 TG.zlen47 (by rw [List.length_map, hni]; simp [chunks] <;> omega) (by rw [List.length_map, hni]; simp [chunks] <;> omega) rfl ?_
       refine r_assign rfl rfl ?_
       refine awl_nil ?_
       refine x_block ?_
       refine x_then ?_
       refine awp_region ?_
       refine r_ari _ rfl rfl rfl (wrap_id (by first | omega | (simp; omega))) rfl ?_
       refine r_move rfl rfl ?_
       refine awl_nil ?_
       refine x_then ?_
       refine ⟨L.length + 1 - (i + 1), ⟨200, [(7, .own 7 2 (L.map File.cs)), (13, .a (.cp [.sl 1 ((momT key L (L.length + 1)).map rowFs)])), (19, .own 19 1 ((numsT (i + 1)).map fun x => [AV.v (.int .u64 x)])), (115, .a (.v (.int .i64 (((momT key L (L.length + 1)).map rowFs).length)))), (116, .a (.v (.int .i64 (((i + 1) : Int)))))], []⟩, ⟨rfl, (Slots.cons rfl (by first | exact .refl _ | exact .nilOwn _ _ | exact .nilSl _ | exact .ownSl _ _ _  | exact SV.le.ownEq (by first | rfl | (rw [numsT_snoc, List.map_append]; rfl)) | exact SV.le.of_eq (by first | rfl | (rw [numsT_snoc, List.map_append]; rfl))) (Slots.cons rfl (by first | exact .refl _ | exact .nilOwn _ _ | exact .nilSl _ | exact .ownSl _ _ _  | exact SV.le.ownEq (by first | rfl | (rw [numsT_snoc, List.map_append]; rfl)) | exact SV.le.of_eq (by first | rfl | (rw [numsT_snoc, List.map_append]; rfl))) (Slots.cons rfl (by first | exact .refl _ | exact .nilOwn _ _ | exact .nilSl _ | exact .ownSl _ _ _  | exact SV.le.ownEq (by first | rfl | (rw [numsT_snoc, List.map_append]; rfl)) | exact SV.le.of_eq (by first | rfl | (rw [numsT_snoc, List.map_append]; rfl))) (Slots.cons rfl (by first | exact .refl _ | exact .nilOwn _ _ | exact .nilSl _ | exact .ownSl _ _ _  | exact SV.le.ownEq (by first | rfl | (rw [numsT_snoc, List.map_append]; rfl)) | exact SV.le.of_eq (by first | rfl | (rw [numsT_snoc, List.map_append]; rfl))) (Slots.cons rfl (by first | exact .refl _ | exact .nilOwn _ _ | exact .nilSl _ | exact .ownSl _ _ _  | exact SV.le.ownEq (by first | rfl | (rw [numsT_snoc, List.map_append]; rfl)) | exact SV.le.of_eq (by first | rfl | (rw [numsT_snoc, List.map_append]; rfl))) Slots.nil))))), (by first | exact List.Sublist.refl _ | exact .cons_cons _ (.cons _ (.refl _)) | exact List.nil_sublist _ | exact .cons _ (.refl _) | exact .cons _ (.cons _ (.refl _)) | exact .cons _ (.cons _ (.cons _ (.refl _))) | exact .cons _ (.cons _ (.cons _ (.cons _ (.refl _)))) | exact .cons_cons _ (List.nil_sublist _))⟩, (by omega), ⟨i + 1, rfl, rfl, (by omega)⟩⟩
      ·
       obtain rfl : i = L.length + 1 := by have := of_decide_eq_false hc7; rw [List.length_map, momT_len] at this; omega
       refine awp_exit ?_
       refine x_thenE ?_
       refine x_thenE ?_
       refine x_blockE ?_
       refine x_then ?_
       refine awp_seq ?_
       refine awp_region ?_
       refine r_move rfl rfl ?_
       refine r_makeFunc rfl (.cons (.ev rfl rfl) .nil) rfl ?_
       refine r_call0 hq rfl rfl (.cons (.ev rfl rfl) (.cons (.ev rfl rfl) (.cons (.ev rfl rfl) .nil))) (ranplan_ok hran) rfl TG.en11 rfl (fun r hr => ?_)
       obtain rfl := hr
       refine r_assign rfl rfl ?_
       refine awl_nil ?_
       refine x_then ?_
       refine awp_seq ?_
       refine awp_region ?_
       refine r_move rfl rfl ?_
       refine r_call0 hq rfl rfl (.cons (.ev rfl rfl) .nil) (sfiles_ok (choT L) (by omega) hcd) rfl TG.en15 rfl (fun r hr => ?_)
       obtain rfl := hr
       rw [ran_files (by omega) hnd hsort]
       refine r_assign rfl rfl ?_
       refine awl_nil ?_
       refine x_then ?_
       refine awp_seq ?_
       refine awp_seq ?_
       refine awp_region ?_
       refine r_move rfl rfl ?_
       refine r_call0 hq rfl rfl (.cons (.ev rfl rfl) .nil) (slost_ok (choT L) (by omega) hcd) rfl TG.en16 rfl (fun r hr => ?_)
       obtain rfl := hr
       rw [ran_lost hnd]
       refine r_lenS rfl rfl TG.sl54 rfl ?_
       refine r_cmp rfl rfl rfl rfl ?_
       refine r_move rfl rfl ?_
       refine g_run rfl rfl rfl ?_
       refine r_move rfl rfl ?_
       refine g_run rfl rfl rfl ?_
       refine r_move rfl rfl ?_
       refine g_run rfl rfl rfl ?_
       refine r_call0 hq rfl rfl (.cons (.ev rfl rfl) (.cons (.ev rfl rfl) .nil)) (fsame_ok L (by omega)) rfl TG.en17 rfl (fun r hr => ?_)
       obtain rfl := hr
       refine g_run rfl rfl rfl ?_
       refine r_not rfl rfl ?_
       refine r_pickF rfl rfl rfl rfl ?_
       refine r_move rfl rfl ?_
       refine g_run rfl rfl rfl ?_
       refine r_move rfl rfl ?_
       refine g_run rfl rfl rfl ?_
       refine r_move rfl rfl ?_
       refine g_run rfl rfl rfl ?_
       refine r_call0 hq rfl rfl (.cons (.ev rfl rfl) (.cons (.ev rfl rfl) .nil)) (of_ok L L (by omega) (by omega) hns hns hds hds) rfl TG.en18 rfl (fun r hr => ?_)
       obtain rfl := hr
       rw [of_nil (fun _ => rfl)]
       refine g_run rfl rfl rfl ?_
       refine r_lenS rfl rfl TG.sl57 rfl ?_
       refine g_run rfl rfl rfl ?_
       refine r_cmp rfl rfl rfl rfl ?_
       refine r_pickF rfl rfl rfl rfl ?_
       refine awl_nil ?_
       refine x_then ?_
       refine awp_cond rfl (fun hc8 => ?_) (fun hc8 => ?_)
       ·
        exfalso; exact absurd hc8 (by decide)
       ·
        refine awp_skip ?_
        refine x_then ?_
        refine awp_seq ?_
        refine awp_region ?_
        refine r_move rfl rfl ?_
        refine r_callPC hq MG hcs (wo := []) (un := []) rfl rfl (.cons (.ev rfl rfl) .nil) (make_ok L (by omega) hns hds) rfl TG.en19 (List.Perm.refl _) (List.nil_sublist _) rfl (fun r nobjs hr => ?_)
        obtain ⟨rfl, hr⟩ := hr
        rcases hr with ⟨-, rfl⟩ | ⟨hno, -⟩
        ·
         refine r_move rfl rfl ?_
         refine r_extract rfl rfl rfl ?_
         refine r_extract rfl rfl rfl ?_
         refine r_assign rfl rfl ?_
         refine r_assign rfl rfl ?_
         refine awl_nil ?_
         refine x_then ?_
         refine awp_seq ?_
         refine awp_region ?_
         refine r_move rfl rfl ?_
         refine r_callPC hq MG hcs (wo := []) (un := []) rfl rfl (.cons (.ev rfl rfl) .nil) (make_ok L (by omega) hns hds) rfl TG.en19 (List.Perm.refl _) (List.nil_sublist _) rfl (fun r nobjs hr => ?_)
         obtain ⟨rfl, hr⟩ := hr
         rcases hr with ⟨-, rfl⟩ | ⟨hno, -⟩
         ·
          refine r_move rfl rfl ?_
          refine r_extract rfl rfl rfl ?_
          refine r_extract rfl rfl rfl ?_
          refine r_assign rfl rfl ?_
          refine r_assign rfl rfl ?_
          refine awl_nil ?_
          refine x_then ?_
          refine awp_seq ?_
          refine awp_seq ?_
          refine awp_region ?_
          refine r_move rfl rfl ?_
          refine r_cmp rfl rfl rfl rfl ?_
          refine r_move rfl rfl ?_
          refine g_run rfl rfl rfl ?_
          refine r_move rfl rfl ?_
          refine g_run rfl rfl rfl ?_
          refine r_cmp rfl rfl rfl rfl ?_
          refine r_pickF rfl rfl rfl rfl ?_
          refine r_move rfl rfl ?_
          refine g_run rfl rfl rfl ?_
          refine r_move rfl rfl ?_
          refine g_run rfl rfl rfl ?_
          refine r_lenS rfl rfl TG.sl59 rfl ?_
          refine g_run rfl rfl rfl ?_
          refine r_move rfl rfl ?_
          refine g_run rfl rfl rfl ?_
          refine r_lenS rfl rfl TG.sl59 rfl ?_
          refine g_run rfl rfl rfl ?_
          refine r_cmp rfl rfl rfl rfl ?_
          refine r_pickF rfl rfl rfl rfl ?_
          refine awl_nil ?_
          refine x_then ?_
          refine awp_cond rfl (fun hc9 => ?_) (fun hc9 => ?_)
          ·
           exfalso; simp at hc9
          ·
           refine awp_skip ?_
           refine x_then ?_
           refine awp_seq ?_
           refine awp_seq ?_
           refine awp_region ?_
           refine r_move rfl rfl ?_
           refine r_lenS rfl rfl TG.sl59 rfl ?_
           refine r_move rfl rfl ?_
           refine awl_nil ?_
           refine x_then ?_
           refine awp_block ?_
           refine awp_loop (fun nn0 S => ∃ k : Nat, S = ⟨200, [(21, .a (choicesA (choT L))), (23, .a (blksA (diskF L))), (25, .a (blksA (diskF L))), (172, .a (.v (.int .i64 (((diskF L).map blkC).length)))), (173, .a (.v (.int .i64 ((k : Int)))))], []⟩ ∧ nn0 = (diskF L).length - k ∧ (k ≤ (diskF L).length)) ((diskF L).length - (0)) ⟨200, [(21, .a (choicesA (choT L))), (23, .a (blksA (diskF L))), (25, .a (blksA (diskF L))), (172, .a (.v (.int .i64 (((diskF L).map blkC).length)))), (173, .a (.v (.int .i64 (((0) : Int)))))], []⟩ ⟨rfl, (Slots.cons rfl (by first | exact .refl _ | exact .nilOwn _ _ | exact .nilSl _ | exact .ownSl _ _ _  | exact SV.le.of_eq (by simp)) (Slots.cons rfl (by first | exact .refl _ | exact .nilOwn _ _ | exact .nilSl _ | exact .ownSl _ _ _  | exact SV.le.of_eq (by simp)) (Slots.cons rfl (by first | exact .refl _ | exact .nilOwn _ _ | exact .nilSl _ | exact .ownSl _ _ _  | exact SV.le.of_eq (by simp)) (Slots.cons rfl (by first | exact .refl _ | exact .nilOwn _ _ | exact .nilSl _ | exact .ownSl _ _ _  | exact SV.le.of_eq (by simp)) (Slots.cons rfl (by first | exact .refl _ | exact .nilOwn _ _ | exact .nilSl _ | exact .ownSl _ _ _  | exact SV.le.of_eq (by simp)) Slots.nil))))), (by first | exact List.Sublist.refl _ | exact .cons_cons _ (.cons _ (.refl _)) | exact List.nil_sublist _ | exact .cons _ (.refl _) | exact .cons _ (.cons _ (.refl _)) | exact .cons _ (.cons _ (.cons _ (.refl _))) | exact .cons _ (.cons _ (.cons _ (.cons _ (.refl _)))) | exact .cons_cons _ (List.nil_sublist _))⟩ ⟨0, rfl, rfl, Nat.zero_le _⟩ ?_
           rintro nn0 _ ⟨k, rfl, rfl, hk⟩
           refine awp_seq ?_
           refine awp_region ?_
           refine r_cmp rfl rfl rfl rfl ?_
           refine awl_nil ?_
           refine x_then ?_
           refine awp_seq ?_
           refine awp_cond rfl (fun hc10 => ?_) (fun hc10 => ?_)
           ·
            have hltx : k < (diskF L).length := by have := of_decide_eq_true hc10; simpa using this
            obtain ⟨x, hx⟩ := get_lt hltx
            have hdl2 := diskF_len hok
            refine awp_skip ?_
            refine x_then ?_
            refine awp_seq ?_
            refine awp_block ?_
            refine awp_seq ?_
            refine awp_region ?_
            refine r_move rfl rfl ?_
            refine r_assign rfl rfl ?_
            refine awl_nil ?_
            refine x_then ?_
            refine awp_seq ?_
            refine awp_drawS [176, 177, 178, 179, 180, 181, 182, 183] [_, _, _, _, _, _, _, _] [] [] TG.mixed rfl rfl rfl ⟨⟨⟨⟨⟨⟨⟨⟨trivial
             , ⟨_, rfl, fun sl hd hr ho => by
               refine r_move (hr 23 _ rfl rfl rfl) rfl ?_
               exact awl_nil ⟨rfl, post_put⟩⟩⟩
             , ⟨_, rfl, fun sl hd hr ho => by
               refine r_move (hr 27 _ rfl rfl rfl) rfl ?_
               exact awl_nil ⟨rfl, post_put⟩⟩⟩
             , ⟨_, rfl, fun sl hd hr ho => by
               refine r_index (hd 0 _ rfl rfl rfl) rfl (hd 1 _ rfl rfl rfl) TG.sl59 TG.sz33 (by omega) (get_map hx) rfl ?_
               exact awl_nil ⟨rfl, post_put⟩⟩⟩
             , ⟨_, rfl, fun sl hd hr ho => by
               refine r_loadA (hd 2 _ rfl rfl rfl) TG.agg33 TG.sz33 rfl rfl ?_
               exact awl_nil ⟨rfl, post_put⟩⟩⟩
             , ⟨_, rfl, fun sl hd hr ho => by
               refine r_move (hr 25 _ rfl rfl rfl) rfl ?_
               exact awl_nil ⟨rfl, post_put⟩⟩⟩
             , ⟨_, rfl, fun sl hd hr ho => by
               refine r_move (hr 27 _ rfl rfl rfl) rfl ?_
               exact awl_nil ⟨rfl, post_put⟩⟩⟩
             , ⟨_, rfl, fun sl hd hr ho => by
               refine r_index (hd 4 _ rfl rfl rfl) rfl (hd 5 _ rfl rfl rfl) TG.sl59 TG.sz33 (by omega) (get_map hx) rfl ?_
               exact awl_nil ⟨rfl, post_put⟩⟩⟩
             , ⟨_, rfl, fun sl hd hr ho => by
               refine r_loadA (hd 6 _ rfl rfl rfl) TG.agg33 TG.sz33 rfl rfl ?_
               exact awl_nil ⟨rfl, post_put⟩⟩⟩
             (by rfl) ?_
            refine r_bytesNe (xs := ((List.range 32).map (x.getD · 0))) (ys := ((List.range 32).map (x.getD · 0))) rfl rfl (by show AV.agg (blkC x) = _; unfold blkC; rw [List.map_map]; rfl) (by show AV.agg (blkC x) = _; unfold blkC; rw [List.map_map]; rfl) TG.un33 TG.un5 TG.sz5 TG.guard33 (by simp) (by simp) rfl ?_
            refine awl_nil ?_
            refine x_then ?_
            refine awp_cond rfl (fun hc11 => ?_) (fun hc11 => ?_)
            ·
             exfalso; simp at hc11
            ·
             refine awp_skip ?_
             refine x_block ?_
             refine x_then ?_
             refine awp_region ?_
             refine r_ari _ rfl rfl rfl (wrap_id (by first | omega | (simp; omega))) rfl ?_
             refine r_move rfl rfl ?_
             refine awl_nil ?_
             refine x_then ?_
             refine ⟨(diskF L).length - (k + 1), ⟨200, [(21, .a (choicesA (choT L))), (23, .a (blksA (diskF L))), (25, .a (blksA (diskF L))), (172, .a (.v (.int .i64 (((diskF L).map blkC).length)))), (173, .a (.v (.int .i64 (((k + 1) : Int)))))], []⟩, ⟨rfl, (Slots.cons rfl (by first | exact .refl _ | exact .nilOwn _ _ | exact .nilSl _ | exact .ownSl _ _ _  | exact SV.le.of_eq (by simp)) (Slots.cons rfl (by first | exact .refl _ | exact .nilOwn _ _ | exact .nilSl _ | exact .ownSl _ _ _  | exact SV.le.of_eq (by simp)) (Slots.cons rfl (by first | exact .refl _ | exact .nilOwn _ _ | exact .nilSl _ | exact .ownSl _ _ _  | exact SV.le.of_eq (by simp)) (Slots.cons rfl (by first | exact .refl _ | exact .nilOwn _ _ | exact .nilSl _ | exact .ownSl _ _ _  | exact SV.le.of_eq (by simp)) (Slots.cons rfl (by first | exact .refl _ | exact .nilOwn _ _ | exact .nilSl _ | exact .ownSl _ _ _  | exact SV.le.of_eq (by simp)) Slots.nil))))), (by first | exact List.Sublist.refl _ | exact .cons_cons _ (.cons _ (.refl _)) | exact List.nil_sublist _ | exact .cons _ (.refl _) | exact .cons _ (.cons _ (.refl _)) | exact .cons _ (.cons _ (.cons _ (.refl _))) | exact .cons _ (.cons _ (.cons _ (.cons _ (.refl _)))) | exact .cons_cons _ (List.nil_sublist _))⟩, (by omega), ⟨k + 1, rfl, rfl, (by omega)⟩⟩
           ·
            have hge : (diskF L).length ≤ k := by have := of_decide_eq_false hc10; simp at this; omega
            refine awp_exit ?_
            refine x_thenE ?_
            refine x_thenE ?_
            refine x_blockE ?_
            refine x_then ?_
            refine awp_seq ?_
            refine awp_seq ?_
            refine awp_region ?_
            refine r_move rfl rfl ?_
            refine r_lenS rfl rfl TG.sl48 rfl ?_
            refine r_move rfl rfl ?_
            refine awl_nil ?_
            refine x_then ?_
            refine awp_block ?_
            refine awp_loop (fun nn0 S => ∃ k : Nat, S = ⟨200, [(186, .a (choicesA (choT L))), (187, .a (.v (.int .i64 (((choT L).map Choice.cs).length)))), (188, .a (.v (.int .i64 ((k : Int)))))], []⟩ ∧ nn0 = (choT L).length - k ∧ (k ≤ (choT L).length)) ((choT L).length - (0)) ⟨200, [(186, .a (choicesA (choT L))), (187, .a (.v (.int .i64 (((choT L).map Choice.cs).length)))), (188, .a (.v (.int .i64 (((0) : Int)))))], []⟩ ⟨rfl, (Slots.cons rfl (by first | exact .refl _ | exact .nilOwn _ _ | exact .nilSl _ | exact .ownSl _ _ _  | exact SV.le.of_eq (by simp)) (Slots.cons rfl (by first | exact .refl _ | exact .nilOwn _ _ | exact .nilSl _ | exact .ownSl _ _ _  | exact SV.le.of_eq (by simp)) (Slots.cons rfl (by first | exact .refl _ | exact .nilOwn _ _ | exact .nilSl _ | exact .ownSl _ _ _  | exact SV.le.of_eq (by simp)) Slots.nil))), (by first | exact List.Sublist.refl _ | exact .cons_cons _ (.cons _ (.refl _)) | exact List.nil_sublist _ | exact .cons _ (.refl _) | exact .cons _ (.cons _ (.refl _)) | exact .cons _ (.cons _ (.cons _ (.refl _))) | exact .cons _ (.cons _ (.cons _ (.cons _ (.refl _)))) | exact .cons_cons _ (List.nil_sublist _))⟩ ⟨0, rfl, rfl, Nat.zero_le _⟩ ?_
            rintro nn0 _ ⟨k, rfl, rfl, hk⟩
            refine awp_seq ?_
            refine awp_region ?_
            refine r_cmp rfl rfl rfl rfl ?_
            refine awl_nil ?_
            refine x_then ?_
            refine awp_seq ?_
            refine awp_cond rfl (fun hc12 => ?_) (fun hc12 => ?_)
            ·
             have hltx : k < (choT L).length := by have := of_decide_eq_true hc12; simpa using this
             obtain ⟨x, hx⟩ := get_lt hltx
             obtain ⟨f, hf, rfl⟩ := choT_inv hx
             refine awp_skip ?_
             refine x_then ?_
             refine awp_seq ?_
             refine awp_block ?_
             refine awp_seq ?_
             refine awp_region ?_
             refine r_move rfl rfl ?_
             refine r_index rfl rfl rfl TG.sl48 TG.sz63 (by omega) (get_map hx) rfl ?_
             refine r_loadA rfl TG.agg63 TG.sz63 rfl rfl ?_
             refine r_alloc TG.zero63 rfl (fun b29 => ?_)
             refine r_assign rfl rfl ?_
             refine r_store 0 rfl rfl rfl TG.sz63 rfl rfl rfl ?_
             refine awl_nil ?_
             refine x_then ?_
             refine awp_seq ?_
             refine awp_region ?_
             refine r_fieldb rfl TG.f63_1 TG.sz47 rfl ?_
             refine r_load1b 0 rfl rfl rfl TG.agg47 rfl ?_
             refine r_move rfl rfl ?_
             refine r_ari _ rfl rfl rfl (wrap_id (by first | omega | (simp; omega))) rfl ?_
             refine r_conv ((k + 1 : Nat) : Int) rfl TG.un3 TG.un47 (by rw [wrap_u64 (by omega)]; omega) rfl ?_
             refine r_cmp rfl rfl rfl rfl ?_
             refine awl_nil ?_
             refine x_then ?_
             refine awp_cond rfl (fun hc13 => ?_) (fun hc13 => ?_)
             ·
              exfalso; simp at hc13
             ·
              refine awp_skip ?_
              refine x_block ?_
              refine x_then ?_
              refine awp_region ?_
              refine r_ari _ rfl rfl rfl (wrap_id (by first | omega | (simp; omega))) rfl ?_
              refine r_move rfl rfl ?_
              refine awl_nil ?_
              refine x_then ?_
              refine ⟨(choT L).length - (k + 1), ⟨200, [(186, .a (choicesA (choT L))), (187, .a (.v (.int .i64 (((choT L).map Choice.cs).length)))), (188, .a (.v (.int .i64 (((k + 1) : Int)))))], []⟩, ⟨rfl, (Slots.cons rfl (by first | exact .refl _ | exact .nilOwn _ _ | exact .nilSl _ | exact .ownSl _ _ _  | exact SV.le.of_eq (by simp)) (Slots.cons rfl (by first | exact .refl _ | exact .nilOwn _ _ | exact .nilSl _ | exact .ownSl _ _ _  | exact SV.le.of_eq (by simp)) (Slots.cons rfl (by first | exact .refl _ | exact .nilOwn _ _ | exact .nilSl _ | exact .ownSl _ _ _  | exact SV.le.of_eq (by simp)) Slots.nil))), (by first | exact List.Sublist.refl _ | exact .cons_cons _ (.cons _ (.refl _)) | exact List.nil_sublist _ | exact .cons _ (.refl _) | exact .cons _ (.cons _ (.refl _)) | exact .cons _ (.cons _ (.cons _ (.refl _))) | exact .cons _ (.cons _ (.cons _ (.cons _ (.refl _)))) | exact .cons_cons _ (List.nil_sublist _))⟩, (by omega), ⟨k + 1, rfl, rfl, (by omega)⟩⟩
            ·
             have hge : (choT L).length ≤ k := by have := of_decide_eq_false hc12; simp at this; omega
             refine awp_exit ?_
             refine x_thenE ?_
             refine x_thenE ?_
             refine x_blockE ?_
             refine x_then ?_
             refine awp_seq ?_
             refine awp_region ?_
             refine r_assign rfl rfl ?_
             refine awl_nil ?_
             refine x_then ?_
             refine awp_ret ?_
             exact ⟨(.inl rfl), _, [], (.one (by first | exact .mk rfl rfl | exact .nil rfl)), ⟨rfl, by first | rfl | (simp [boolA, SV.av]; done)⟩, (List.nil_sublist _), (by simp)⟩
         ·
          exact absurd hok (by rw [hno]; decide)
        ·
         exact absurd hok (by rw [hno]; decide)
theorem sransom_lawI (long : List UInt8) (d k : Int) (hd : (Lit.int .u8 d).wf = true) (hk : (Lit.int .u8 k).wf = true) : AWC MG Tryd.prog 3 [bts long, .v (.int .u8 d), .v (.int .u8 k)] [] [] (fun r n => n = [] ∧ r = boolA true) := by
  have key : ∀ k : Int, (Lit.int .u8 k).wf = true → ((UInt8.ofNat k.toNat).toNat : Int) = k := fun k hk => by
    have hb : IntKind.u8.min ≤ k ∧ k ≤ IntKind.u8.max := by simpa [Lit.wf] using hk
    simp [IntKind.min, IntKind.max, IntKind.bits, IntKind.signed] at hb
    simp [UInt8.toNat_ofNat']; omega
  rw [← key d hd, ← key k hk]
  exact sransom_law long _ _
end Go.Proofs.YtcbhhjahjnlfhaaDoor.A

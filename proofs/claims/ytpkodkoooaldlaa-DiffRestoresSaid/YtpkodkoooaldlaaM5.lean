import Derived.WalkKit
import Derived.Below
import Derived.Laws.Rows
import Derived.Laws.CopyRow
import Derived.Laws.AppendOwn
import Derived.RangeFuncLeaves
import Derived.RangeFuncSeq
import Derived.RangeFuncCalls
import Derived.MapKept
import Derived.Orders
import Derived.Laws.IdiomStrings
import Derived.Laws.BytesArg
import Derived.Shelf.SlIter.Nil
import Derived.RangeFuncBound
import Derived.Maps.RangeRun
import Derived.DeepKeys3
import Derived.Laws.StructEq
import Derived.Shelf.SlSortCmp.NoneTotal
import Derived.ChangeKeysEq
import Derived.Laws.MakeOwn
import Derived.ChangeArms
import Derived.ChangeOld
import Derived.Laws.DeepStrings4
import Derived.OpenShut
import Derived.Test.YtpkodkoooaldlaaProg
import Derived.KernelRfl
import Derived.OrdersIn
import Derived.Lib.AppendZeros
import Derived.Lib.AppendZerosOnto
import Derived.Lib.Overlaps
import Derived.Deep.AppendSrc
import Derived.Scope
import Derived.Shelf.SlGeneric
import Derived.Ground.SlsfProg
import Derived.Ground.SlmcProg
import Derived.Shelf.SlMaps.Clone
import Derived.Test.YtpkodkoooaldlaaM4
namespace Go.Proofs.Ytpkodkoooaldlaa.A
open Go Go.RowKit
set_option linter.unusedVariables false
set_option linter.unusedSimpArgs false
set_option maxRecDepth 100000
theorem TV.zero73 : ZeroT Try.prog 73 [.v (.int .i64 0), .v (.int .i64 0), .v (.int .i64 0), .v (.int .u64 0)] := ⟨[(.int .i64 0), (.int .i64 0), (.int .i64 0), (.int .u64 0)], by kernel_rfl, (LeCells.refl _)⟩
theorem TV.un100 : Try.prog.underlying 100 = some (.pointer 115) := by kernel_rfl
theorem TV.pl73 : placesT Try.prog 73 = some [(0, 3), (3, 1)] := by kernel_rfl
theorem TV.sz73 : szT Try.prog 73 = some 4 := by kernel_rfl
theorem TV.agg73 : aggT Try.prog 73 = some true := by kernel_rfl
theorem TV.en52 : entersT Try.prog 52 := enters_of Try.func52 (by kernel_rfl) (by kernel_rfl)
theorem TV.en39 : entersT Try.prog 39 := enters_of Try.func39 (by kernel_rfl) (by kernel_rfl)
theorem TV.f115_0 : fieldT Try.prog 115 0 = some (0, 112) := by kernel_rfl
theorem TV.sz112 : szT Try.prog 112 = some 1 := by kernel_rfl
theorem TV.agg112 : aggT Try.prog 112 = some false := by kernel_rfl
theorem TV.sl112 : sliceT Try.prog 112 = some 73 := by kernel_rfl
theorem TV.mixed : Try.prog.follows .mixedOrders = true := by kernel_rfl
theorem TV.f115_1 : fieldT Try.prog 115 1 = some (1, 113) := by kernel_rfl
theorem TV.sz113 : szT Try.prog 113 = some 1 := by kernel_rfl
theorem TV.agg113 : aggT Try.prog 113 = some false := by kernel_rfl
theorem TV.sl113 : sliceT Try.prog 113 = some 31 := by kernel_rfl
theorem TV.sz31 : szT Try.prog 31 = some 1 := by kernel_rfl
theorem TV.agg31 : aggT Try.prog 31 = some false := by kernel_rfl
theorem TV.en37 : entersT Try.prog 37 := enters_of Try.func37 (by kernel_rfl) (by kernel_rfl)
theorem TV.en38 : entersT Try.prog 38 := enters_of Try.func38 (by kernel_rfl) (by kernel_rfl)
theorem TV.en34 : entersT Try.prog 34 := enters_of Try.func34 (by kernel_rfl) (by kernel_rfl)
theorem TV.pl78 : placesT Try.prog 78 = some [(0, 1)] := by kernel_rfl
theorem TV.zero78 : ZeroT Try.prog 78 [.v (.pointer none)] := ⟨[(.pointer none)], by kernel_rfl, (LeCells.refl _)⟩
theorem TV.un25 : Try.prog.underlying 25 = some (.pointer 78) := by kernel_rfl
theorem TV.f78_0 : fieldT Try.prog 78 0 = some (0, 29) := by kernel_rfl
theorem TV.sz29 : szT Try.prog 29 = some 1 := by kernel_rfl
theorem TV.agg29 : aggT Try.prog 29 = some false := by kernel_rfl
theorem TV.un29 : Try.prog.underlying 29 = some (.pointer 111) := by kernel_rfl
theorem TV.agg47 : aggT Try.prog 47 = some true := by kernel_rfl
theorem TV.sz47 : szT Try.prog 47 = some 3 := by kernel_rfl
theorem TV.en24 : entersT Try.prog 24 := enters_of Try.func24 (by kernel_rfl) (by kernel_rfl)
theorem TV.f73_0 : fieldT Try.prog 73 0 = some (0, 47) := by kernel_rfl
theorem TV.f73_1 : fieldT Try.prog 73 1 = some (3, 31) := by kernel_rfl
theorem TV.en25 : entersT Try.prog 25 := enters_of Try.func25 (by kernel_rfl) (by kernel_rfl)
theorem TV.en26 : entersT Try.prog 26 := enters_of Try.func26 (by kernel_rfl) (by kernel_rfl)
theorem floor1_ok (i : Int) (b : Bool) (h : 0 ≤ i ∧ i ≤ 1000) : AC Try.prog 39 [.v (.int .i64 i), boolA b] [] (fun r n => n = [] ∧ r = .v (.int .i64 (if b then i else i - 1))) := by
 refine ac_of_awp (rs := [4]) (nt := 9) Try.func39 rfl rfl rfl rfl (fun w0 C0 hq => ?_)
 refine awp_seq ?_
 refine awp_region ?_
 refine r_assign rfl rfl ?_
 refine awl_nil ?_
 refine x_then ?_
 refine awp_seq ?_
 refine awp_seq ?_
 refine awp_region ?_
 refine r_move rfl rfl ?_
 refine awl_nil ?_
 refine x_then ?_
 refine awp_cond rfl (fun hc0 => ?_) (fun hc0 => ?_)
 ·
  have hb : b = true := hc0
  refine awp_seq ?_
  refine awp_region ?_
  refine r_move rfl rfl ?_
  refine r_assign rfl rfl ?_
  refine awl_nil ?_
  refine x_then ?_
  refine awp_ret ?_
  refine x_thenR ?_
  exact ⟨(.inl rfl), _, [], (.one (by first | exact .mk rfl rfl | exact .nil rfl)), ⟨rfl, by rw [hb]; rfl⟩, (List.nil_sublist _), (by simp)⟩
 ·
  have hb : b = false := hc0
  refine awp_skip ?_
  refine x_then ?_
  refine awp_seq ?_
  refine awp_region ?_
  refine r_move rfl rfl ?_
  refine r_ari _ rfl rfl rfl (wrap_id (by first | omega | (simp; omega))) rfl ?_
  refine r_assign rfl rfl ?_
  refine awl_nil ?_
  refine x_then ?_
  refine awp_ret ?_
  exact ⟨(.inl rfl), _, [], (.one (by first | exact .mk rfl rfl | exact .nil rfl)), ⟨rfl, by rw [hb]; rfl⟩, (List.nil_sublist _), (by simp)⟩
theorem near_nil (k : Sp) : AC Try.prog 38 [nilP, spA k, .fn 39 []] [] (fun r nb => nb = [] ∧ r = flA (none)) := by
 refine ac_of_awpG (Res3K Try.prog (.cell 6 73) (.tmp 7) (.tmp 8)) (nt := 46) Try.func38 rfl rfl rfl (resK3_run rfl) (fun w0 C0 hq => ?_)
 unfold nilP
 refine awp_seq ?_
 refine awp_region ?_
 refine r_box rfl rfl rfl (fun b4 => ?_)
 refine r_alloc TV.zero73 rfl (fun b6 => ?_)
 refine r_assign rfl rfl ?_
 refine r_assign rfl rfl ?_
 refine awl_nil ?_
 refine x_then ?_
 refine awp_seq ?_
 refine awp_seq ?_
 refine awp_region ?_
 refine r_move rfl rfl ?_
 refine r_pnil rfl (by first | exact .pt _ _ | exact .nil | exact .v _ | exact .cp _) TV.un100 rfl ?_
 refine awl_nil ?_
 refine x_then ?_
 refine awp_cond rfl (fun hc0 => ?_) (fun hc0 => ?_)
 ·
  skip
  refine awp_seq ?_
  refine awp_region ?_
  refine r_build (parts := []) rfl TV.pl73 TV.zero73 rfl rfl rfl ?_
  first | (refine r_store 0 rfl rfl rfl TV.sz73 rfl rfl rfl ?_) | (refine r_store 1 rfl rfl rfl TV.sz73 rfl rfl rfl ?_)
  refine r_assign rfl rfl ?_
  refine r_assign rfl rfl ?_
  refine awl_nil ?_
  refine x_then ?_
  refine awp_ret ?_
  refine x_thenR ?_
  exact ⟨(.inl rfl), _, [], ⟨_, _, _, (.box (by first | exact .mk' 0 rfl rfl TV.agg73 TV.sz73 rfl | exact .mk' 1 rfl rfl TV.agg73 TV.sz73 rfl | exact .mk' 2 rfl rfl TV.agg73 TV.sz73 rfl | exact .mk' 3 rfl rfl TV.agg73 TV.sz73 rfl | exact .mk' 4 rfl rfl TV.agg73 TV.sz73 rfl | exact .mk' 5 rfl rfl TV.agg73 TV.sz73 rfl)), (.tmp (by first | exact .mk rfl rfl | exact .nil rfl)), (.tmp (by first | exact .mk rfl rfl | exact .nil rfl)), rfl⟩, ⟨rfl, rfl⟩, (List.nil_sublist _), (by simp)⟩
 ·
  exfalso; cases hc0
theorem near_leaf (b : Nat) (its : List It) (hs : Srt its) (h4 : its.length ≤ 4) (k : Sp) : AC Try.prog 38 [ndA b (its.map fun p : Sp × Int => p.1) (its.map fun p : Sp × Int => p.2) [], spA k, .fn 39 []] [] (fun r nb => nb = [] ∧ r = flA (floorL its k)) := by
 refine ac_of_awpG (Res3K Try.prog (.cell 6 73) (.tmp 7) (.tmp 8)) (nt := 46) Try.func38 rfl rfl rfl (resK3_run rfl) (fun w0 C0 hq => ?_)
 have hff := floor_find (k := k) hs
 have hle : (findL k (its.map fun p : Sp × Int => p.1)).1 ≤ (its.map fun p : Sp × Int => p.1).length := findL_le
 rw [List.length_map] at hle
 refine awp_seq ?_
 refine awp_region ?_
 refine r_box rfl rfl rfl (fun b4 => ?_)
 refine r_alloc TV.zero73 rfl (fun b6 => ?_)
 refine r_assign rfl rfl ?_
 refine r_assign rfl rfl ?_
 refine awl_nil ?_
 refine x_then ?_
 refine awp_seq ?_
 refine awp_seq ?_
 refine awp_region ?_
 refine r_move rfl rfl ?_
 refine r_pnil rfl (by first | exact .pt _ _ | exact .nil | exact .v _ | exact .cp _) TV.un100 rfl ?_
 refine awl_nil ?_
 refine x_then ?_
 refine awp_cond rfl (fun hc0 => ?_) (fun hc0 => ?_)
 ·
  exfalso; cases hc0
 ·
  refine awp_skip ?_
  refine x_then ?_
  refine awp_seq ?_
  refine awp_region ?_
  refine r_move rfl rfl ?_
  refine r_move rfl rfl ?_
  first | (refine r_loadAb 0 rfl rfl TV.agg73 TV.sz73 rfl rfl ?_) | (refine r_loadA rfl TV.agg73 TV.sz73 rfl rfl ?_) | (refine r_loadAb 1 rfl rfl TV.agg73 TV.sz73 rfl rfl ?_)
  refine r_call0 hq rfl rfl (.cons (.ev rfl rfl) (.cons (.ev rfl rfl) .nil)) (find_ok b (its.map fun p : Sp × Int => p.1) (its.map fun p : Sp × Int => p.2) [] (by simp; omega) k) rfl TV.en52 rfl (fun r hr => ?_)
  obtain rfl := hr
  rw [show findN k (its.map fun p : Sp × Int => p.1) ([] : List AV).isEmpty = findL k (its.map fun p : Sp × Int => p.1) from rfl]
  generalize (findL k (its.map fun p : Sp × Int => p.1)) = q at hff hle
  refine r_extract rfl rfl rfl ?_
  refine r_extract rfl rfl rfl ?_
  refine r_call0 hq rfl rfl (.cons (.ev rfl rfl) (.cons (.ev rfl rfl) .nil)) (floor1_ok ((q.1 : Nat) : Int) q.2 ⟨Int.natCast_nonneg _, by omega⟩) rfl TV.en39 rfl (fun r hr => ?_)
  obtain rfl := hr
  obtain ⟨z, hz⟩ : ∃ z : Int, z = if q.2 = true then ((q.1 : Nat) : Int) else ((q.1 : Nat) : Int) - 1 := ⟨_, rfl⟩
  rw [← hz]
  have hfz : floorL its k = if z < 0 then none else its[z.toNat]? := by
   rw [hff, hz]
   rcases q with ⟨i, b⟩
   cases b with
   | true => simp only [if_true]; rw [if_neg (by omega), Int.toNat_natCast]
   | false =>
    simp only [Bool.false_eq_true, if_false]
    by_cases h0 : i = 0
    · rw [if_pos h0, if_pos (by omega)]
    · rw [if_neg h0, if_neg (by omega), show ((i : Int) - 1).toNat = i - 1 by omega]
  refine r_assign rfl rfl ?_
  refine awl_nil ?_
  refine x_then ?_
  refine awp_seq ?_
  refine awp_seq ?_
  refine awp_region ?_
  refine r_move rfl rfl ?_
  refine r_cmp rfl rfl rfl rfl ?_
  refine r_move rfl rfl ?_
  refine g_cases (t' := 22) rfl (fun hg22 => ?_) (fun hg22 => ?_)
  ·
   have hz1 : z < 0 := of_decide_eq_true hg22
   rw [if_pos hz1] at hfz
   refine g_skip rfl rfl hg22 rfl ?_
   refine g_skip rfl rfl hg22 rfl ?_
   refine g_skip rfl rfl hg22 rfl ?_
   refine g_skip rfl rfl hg22 rfl ?_
   refine g_skip rfl rfl hg22 rfl ?_
   refine g_skip rfl rfl hg22 rfl ?_
   refine g_skip rfl rfl hg22 rfl ?_
   refine r_pickT rfl hg22 rfl rfl ?_
   refine awl_nil ?_
   refine x_then ?_
   refine awp_condT rfl ?_
   refine awp_seq ?_
   refine awp_region ?_
   refine r_build (parts := []) rfl TV.pl73 TV.zero73 rfl rfl rfl ?_
   first | (refine r_store 0 rfl rfl rfl TV.sz73 rfl rfl rfl ?_) | (refine r_store 1 rfl rfl rfl TV.sz73 rfl rfl rfl ?_)
   refine r_assign rfl rfl ?_
   refine r_assign rfl rfl ?_
   refine awl_nil ?_
   refine x_then ?_
   refine awp_ret ?_
   refine x_thenR ?_
   exact ⟨(.inl rfl), _, [], ⟨_, _, _, (.box (by first | exact .mk' 0 rfl rfl TV.agg73 TV.sz73 rfl | exact .mk' 1 rfl rfl TV.agg73 TV.sz73 rfl | exact .mk' 2 rfl rfl TV.agg73 TV.sz73 rfl | exact .mk' 3 rfl rfl TV.agg73 TV.sz73 rfl | exact .mk' 4 rfl rfl TV.agg73 TV.sz73 rfl | exact .mk' 5 rfl rfl TV.agg73 TV.sz73 rfl)), (.tmp (by first | exact .mk rfl rfl | exact .nil rfl)), (.tmp (by first | exact .mk rfl rfl | exact .nil rfl)), rfl⟩, ⟨rfl, by rw [hfz]; rfl⟩, (List.nil_sublist _), (by simp)⟩
  ·
   have hz0 : 0 ≤ z := by have := of_decide_eq_false hg22; omega
   rw [if_neg (by omega)] at hfz
   refine g_run rfl rfl hg22 ?_
   refine r_move rfl rfl ?_
   refine g_run rfl rfl hg22 ?_
   refine r_move rfl rfl ?_
   refine g_run rfl rfl hg22 ?_
   refine r_nilCheck rfl (by first | exact .pt _ _ | exact .v _ | exact .cp _) rfl ?_
   refine g_run rfl rfl hg22 ?_
   first | (refine r_fieldpt rfl TV.f115_0 TV.sz112 rfl ?_) | (refine r_fieldcp rfl TV.f115_0 TV.sz112 rfl ?_) | (refine r_fieldb rfl TV.f115_0 TV.sz112 rfl ?_)
   refine g_run rfl rfl hg22 ?_
   first | (refine r_load1b 0 rfl rfl rfl TV.agg112 rfl ?_) | (refine r_load1 rfl TV.agg112 rfl ?_) | (refine r_load1b 1 rfl rfl rfl TV.agg112 rfl ?_)
   refine g_run rfl rfl hg22 ?_
   first | (refine r_lenS rfl rfl TV.sl112 rfl ?_) | (refine r_lenNil rfl TV.sl112 rfl ?_) | (refine r_lenV rfl TV.sl112 rfl ?_)
   refine g_run rfl rfl hg22 ?_
   refine r_cmp rfl rfl rfl rfl ?_
   refine r_pickF rfl hg22 rfl rfl ?_
   refine awl_nil ?_
   refine x_then ?_
   refine awp_cond rfl (fun hc1 => ?_) (fun hc1 => ?_)
   ·
    have hzl : its.length ≤ z.toNat := by have := of_decide_eq_true hc1; simp at this; omega
    rw [List.getElem?_eq_none hzl] at hfz
    refine awp_seq ?_
    refine awp_region ?_
    refine r_build (parts := []) rfl TV.pl73 TV.zero73 rfl rfl rfl ?_
    first | (refine r_store 0 rfl rfl rfl TV.sz73 rfl rfl rfl ?_) | (refine r_store 1 rfl rfl rfl TV.sz73 rfl rfl rfl ?_)
    refine r_assign rfl rfl ?_
    refine r_assign rfl rfl ?_
    refine awl_nil ?_
    refine x_then ?_
    refine awp_ret ?_
    refine x_thenR ?_
    exact ⟨(.inl rfl), _, [], ⟨_, _, _, (.box (by first | exact .mk' 0 rfl rfl TV.agg73 TV.sz73 rfl | exact .mk' 1 rfl rfl TV.agg73 TV.sz73 rfl | exact .mk' 2 rfl rfl TV.agg73 TV.sz73 rfl | exact .mk' 3 rfl rfl TV.agg73 TV.sz73 rfl | exact .mk' 4 rfl rfl TV.agg73 TV.sz73 rfl | exact .mk' 5 rfl rfl TV.agg73 TV.sz73 rfl)), (.tmp (by first | exact .mk rfl rfl | exact .nil rfl)), (.tmp (by first | exact .mk rfl rfl | exact .nil rfl)), rfl⟩, ⟨rfl, by rw [hfz]; rfl⟩, (List.nil_sublist _), (by simp)⟩
   ·
    have hzl : z.toNat < its.length := by have := of_decide_eq_false hc1; simp at this; omega
    obtain ⟨x, hx⟩ := get_lt hzl
    rw [hx] at hfz
    refine awp_skip ?_
    refine x_then ?_
    refine awp_seq ?_
    refine awp_any (fun B S => ∃ sl : List (Nat × SV), S = ⟨46, sl, [⟨b6, true, .box (cond (B 14) x.1.cs [.v (.int .i64 0), .v (.int .i64 0), .v (.int .i64 0), .v (.int .u64 0)])⟩, ⟨b4, true, .box k.cs⟩]⟩ ∧ find 0 sl = some (.a (.pt b [.sl 4 ((its.map fun p : Sp × Int => p.1).map Sp.cs), .sl 1 ((its.map fun p : Sp × Int => p.2).map u64c), .sl 1 (([] : List AV).map fun x => [x])])) ∧ find 6 sl = some (.a (.v (.pointer (some ⟨b6, 0, none⟩)))) ∧ find 9 sl = some (.a (.v (.int .i64 (z)))) ∧ (B 0 = true → find 32 sl = some (.a (.pt b [.sl 4 ((its.map fun p : Sp × Int => p.1).map Sp.cs), .sl 1 ((its.map fun p : Sp × Int => p.2).map u64c), .sl 1 (([] : List AV).map fun x => [x])]))) ∧ (B 1 = true → find 33 sl = some (.a (.pt b [.sl 4 ((its.map fun p : Sp × Int => p.1).map Sp.cs), .sl 1 ((its.map fun p : Sp × Int => p.2).map u64c), .sl 1 (([] : List AV).map fun x => [x])]))) ∧ (B 2 = true → find 34 sl = some (.a (.cp [.sl 4 ((its.map fun p : Sp × Int => p.1).map Sp.cs), .sl 1 ((its.map fun p : Sp × Int => p.2).map u64c), .sl 1 (([] : List AV).map fun x => [x])]))) ∧ (B 3 = true → find 35 sl = some (.a (.sl 4 ((its.map fun p : Sp × Int => p.1).map Sp.cs)))) ∧ (B 4 = true → find 36 sl = some (.a (.v (.int .i64 (z))))) ∧ (B 5 = true → find 37 sl = some (.a (.cp x.1.cs))) ∧ (B 6 = true → find 38 sl = some (.a (spA x.1))) ∧ (B 7 = true → find 39 sl = some (.a (.pt b [.sl 4 ((its.map fun p : Sp × Int => p.1).map Sp.cs), .sl 1 ((its.map fun p : Sp × Int => p.2).map u64c), .sl 1 (([] : List AV).map fun x => [x])]))) ∧ (B 8 = true → find 40 sl = some (.a (.pt b [.sl 4 ((its.map fun p : Sp × Int => p.1).map Sp.cs), .sl 1 ((its.map fun p : Sp × Int => p.2).map u64c), .sl 1 (([] : List AV).map fun x => [x])]))) ∧ (B 9 = true → find 41 sl = some (.a (.cp [.sl 1 ((its.map fun p : Sp × Int => p.2).map u64c), .sl 1 (([] : List AV).map fun x => [x])]))) ∧ (B 10 = true → find 42 sl = some (.a (.sl 1 ((its.map fun p : Sp × Int => p.2).map u64c)))) ∧ (B 11 = true → find 43 sl = some (.a (.v (.int .i64 (z))))) ∧ (B 12 = true → find 44 sl = some (.a (.cp (u64c x.2)))) ∧ (B 13 = true → find 45 sl = some (.a (.v (.int .u64 x.2)))) ∧ (B 15 = true → find 7 sl = some (.a (.v (.int .u64 x.2)))) ∧ (B 16 = true → find 8 sl = some (.a (.v (Go.Value.bool true))))) TV.mixed rfl ⟨_, rfl, rfl, rfl, rfl, (fun h => by cases h), (fun h => by cases h), (fun h => by cases h), (fun h => by cases h), (fun h => by cases h), (fun h => by cases h), (fun h => by cases h), (fun h => by cases h), (fun h => by cases h), (fun h => by cases h), (fun h => by cases h), (fun h => by cases h), (fun h => by cases h), (fun h => by cases h), (fun h => by cases h), (fun h => by cases h)⟩ ⟨⟨⟨⟨⟨⟨⟨⟨⟨⟨⟨⟨⟨⟨⟨⟨⟨trivial
     , ⟨_, rfl, fun B S hBi hdep hcl => by
       rintro ⟨sl, rfl, h0, h6, h9, f0, f1, f2, f3, f4, f5, f6, f7, f8, f9, f10, f11, f12, f13, f15, f16⟩
       refine r_move h0 rfl ?_
       exact awl_nil ⟨rfl, _, rfl, h0, h6, h9, (fun h => rfl), f1, f2, f3, f4, f5, f6, f7, f8, f9, f10, f11, f12, f13, f15, f16⟩⟩⟩
     , ⟨_, rfl, fun B S hBi hdep hcl => by
       rintro ⟨sl, rfl, h0, h6, h9, f0, f1, f2, f3, f4, f5, f6, f7, f8, f9, f10, f11, f12, f13, f15, f16⟩
       refine r_nilCheck (f0 (hdep 0 rfl)) (by first | exact .pt _ _ | exact .v _ | exact .cp _) rfl ?_
       exact awl_nil ⟨rfl, _, rfl, h0, h6, h9, f0, (fun h => rfl), f2, f3, f4, f5, f6, f7, f8, f9, f10, f11, f12, f13, f15, f16⟩⟩⟩
     , ⟨_, rfl, fun B S hBi hdep hcl => by
       rintro ⟨sl, rfl, h0, h6, h9, f0, f1, f2, f3, f4, f5, f6, f7, f8, f9, f10, f11, f12, f13, f15, f16⟩
       first | (refine r_fieldpt (f1 (hdep 1 rfl)) TV.f115_0 TV.sz112 rfl ?_) | (refine r_fieldcp (f1 (hdep 1 rfl)) TV.f115_0 TV.sz112 rfl ?_) | (refine r_fieldb (f1 (hdep 1 rfl)) TV.f115_0 TV.sz112 rfl ?_)
       exact awl_nil ⟨rfl, _, rfl, h0, h6, h9, f0, f1, (fun h => rfl), f3, f4, f5, f6, f7, f8, f9, f10, f11, f12, f13, f15, f16⟩⟩⟩
     , ⟨_, rfl, fun B S hBi hdep hcl => by
       rintro ⟨sl, rfl, h0, h6, h9, f0, f1, f2, f3, f4, f5, f6, f7, f8, f9, f10, f11, f12, f13, f15, f16⟩
       first | (refine r_load1b 0 (f2 (hdep 2 rfl)) rfl rfl TV.agg112 rfl ?_) | (refine r_load1 (f2 (hdep 2 rfl)) TV.agg112 rfl ?_) | (refine r_load1b 1 (f2 (hdep 2 rfl)) rfl rfl TV.agg112 rfl ?_)
       exact awl_nil ⟨rfl, _, rfl, h0, h6, h9, f0, f1, f2, (fun h => rfl), f4, f5, f6, f7, f8, f9, f10, f11, f12, f13, f15, f16⟩⟩⟩
     , ⟨_, rfl, fun B S hBi hdep hcl => by
       rintro ⟨sl, rfl, h0, h6, h9, f0, f1, f2, f3, f4, f5, f6, f7, f8, f9, f10, f11, f12, f13, f15, f16⟩
       refine r_move h9 rfl ?_
       exact awl_nil ⟨rfl, _, rfl, h0, h6, h9, f0, f1, f2, f3, (fun h => rfl), f5, f6, f7, f8, f9, f10, f11, f12, f13, f15, f16⟩⟩⟩
     , ⟨_, rfl, fun B S hBi hdep hcl => by
       rintro ⟨sl, rfl, h0, h6, h9, f0, f1, f2, f3, f4, f5, f6, f7, f8, f9, f10, f11, f12, f13, f15, f16⟩
       refine r_index (f3 (hdep 3 rfl)) rfl (f4 (hdep 4 rfl)) TV.sl112 TV.sz73 hz0 (get_map (get_map hx)) rfl ?_
       exact awl_nil ⟨rfl, _, rfl, h0, h6, h9, f0, f1, f2, f3, f4, (fun h => rfl), f6, f7, f8, f9, f10, f11, f12, f13, f15, f16⟩⟩⟩
     , ⟨_, rfl, fun B S hBi hdep hcl => by
       rintro ⟨sl, rfl, h0, h6, h9, f0, f1, f2, f3, f4, f5, f6, f7, f8, f9, f10, f11, f12, f13, f15, f16⟩
       first | (refine r_loadAb 0 (f5 (hdep 5 rfl)) rfl TV.agg73 TV.sz73 rfl rfl ?_) | (refine r_loadA (f5 (hdep 5 rfl)) TV.agg73 TV.sz73 rfl rfl ?_) | (refine r_loadAb 1 (f5 (hdep 5 rfl)) rfl TV.agg73 TV.sz73 rfl rfl ?_)
       exact awl_nil ⟨rfl, _, rfl, h0, h6, h9, f0, f1, f2, f3, f4, f5, (fun h => rfl), f7, f8, f9, f10, f11, f12, f13, f15, f16⟩⟩⟩
     , ⟨_, rfl, fun B S hBi hdep hcl => by
       rintro ⟨sl, rfl, h0, h6, h9, f0, f1, f2, f3, f4, f5, f6, f7, f8, f9, f10, f11, f12, f13, f15, f16⟩
       refine r_move h0 rfl ?_
       exact awl_nil ⟨rfl, _, rfl, h0, h6, h9, f0, f1, f2, f3, f4, f5, f6, (fun h => rfl), f8, f9, f10, f11, f12, f13, f15, f16⟩⟩⟩
     , ⟨_, rfl, fun B S hBi hdep hcl => by
       rintro ⟨sl, rfl, h0, h6, h9, f0, f1, f2, f3, f4, f5, f6, f7, f8, f9, f10, f11, f12, f13, f15, f16⟩
       refine r_nilCheck (f7 (hdep 7 rfl)) (by first | exact .pt _ _ | exact .v _ | exact .cp _) rfl ?_
       exact awl_nil ⟨rfl, _, rfl, h0, h6, h9, f0, f1, f2, f3, f4, f5, f6, f7, (fun h => rfl), f9, f10, f11, f12, f13, f15, f16⟩⟩⟩
     , ⟨_, rfl, fun B S hBi hdep hcl => by
       rintro ⟨sl, rfl, h0, h6, h9, f0, f1, f2, f3, f4, f5, f6, f7, f8, f9, f10, f11, f12, f13, f15, f16⟩
       first | (refine r_fieldpt (f8 (hdep 8 rfl)) TV.f115_1 TV.sz113 rfl ?_) | (refine r_fieldcp (f8 (hdep 8 rfl)) TV.f115_1 TV.sz113 rfl ?_) | (refine r_fieldb (f8 (hdep 8 rfl)) TV.f115_1 TV.sz113 rfl ?_)
       exact awl_nil ⟨rfl, _, rfl, h0, h6, h9, f0, f1, f2, f3, f4, f5, f6, f7, f8, (fun h => rfl), f10, f11, f12, f13, f15, f16⟩⟩⟩
     , ⟨_, rfl, fun B S hBi hdep hcl => by
       rintro ⟨sl, rfl, h0, h6, h9, f0, f1, f2, f3, f4, f5, f6, f7, f8, f9, f10, f11, f12, f13, f15, f16⟩
       first | (refine r_load1b 0 (f9 (hdep 9 rfl)) rfl rfl TV.agg113 rfl ?_) | (refine r_load1 (f9 (hdep 9 rfl)) TV.agg113 rfl ?_) | (refine r_load1b 1 (f9 (hdep 9 rfl)) rfl rfl TV.agg113 rfl ?_)
       exact awl_nil ⟨rfl, _, rfl, h0, h6, h9, f0, f1, f2, f3, f4, f5, f6, f7, f8, f9, (fun h => rfl), f11, f12, f13, f15, f16⟩⟩⟩
     , ⟨_, rfl, fun B S hBi hdep hcl => by
       rintro ⟨sl, rfl, h0, h6, h9, f0, f1, f2, f3, f4, f5, f6, f7, f8, f9, f10, f11, f12, f13, f15, f16⟩
       refine r_move h9 rfl ?_
       exact awl_nil ⟨rfl, _, rfl, h0, h6, h9, f0, f1, f2, f3, f4, f5, f6, f7, f8, f9, f10, (fun h => rfl), f12, f13, f15, f16⟩⟩⟩
     , ⟨_, rfl, fun B S hBi hdep hcl => by
       rintro ⟨sl, rfl, h0, h6, h9, f0, f1, f2, f3, f4, f5, f6, f7, f8, f9, f10, f11, f12, f13, f15, f16⟩
       refine r_index (f10 (hdep 10 rfl)) rfl (f11 (hdep 11 rfl)) TV.sl113 TV.sz31 hz0 (get_map (get_map hx)) rfl ?_
       exact awl_nil ⟨rfl, _, rfl, h0, h6, h9, f0, f1, f2, f3, f4, f5, f6, f7, f8, f9, f10, f11, (fun h => rfl), f13, f15, f16⟩⟩⟩
     , ⟨_, rfl, fun B S hBi hdep hcl => by
       rintro ⟨sl, rfl, h0, h6, h9, f0, f1, f2, f3, f4, f5, f6, f7, f8, f9, f10, f11, f12, f13, f15, f16⟩
       first | (refine r_load1b 0 (f12 (hdep 12 rfl)) rfl rfl TV.agg31 rfl ?_) | (refine r_load1 (f12 (hdep 12 rfl)) TV.agg31 rfl ?_) | (refine r_load1b 1 (f12 (hdep 12 rfl)) rfl rfl TV.agg31 rfl ?_)
       exact awl_nil ⟨rfl, _, rfl, h0, h6, h9, f0, f1, f2, f3, f4, f5, f6, f7, f8, f9, f10, f11, f12, (fun h => rfl), f15, f16⟩⟩⟩
     , ⟨_, rfl, fun B S hBi hdep hcl => by
       rintro ⟨sl, rfl, h0, h6, h9, f0, f1, f2, f3, f4, f5, f6, f7, f8, f9, f10, f11, f12, f13, f15, f16⟩
       rw [hBi]
       first | (refine r_store 0 h6 rfl (f6 (hdep 6 rfl)) TV.sz73 rfl rfl rfl ?_) | (refine r_store 1 h6 rfl (f6 (hdep 6 rfl)) TV.sz73 rfl rfl rfl ?_)
       exact awl_nil ⟨rfl, sl, (by show _ = (⟨46, _, [⟨b6, true, .box (cond true x.1.cs [.v (.int .i64 0), .v (.int .i64 0), .v (.int .i64 0), .v (.int .u64 0)])⟩, ⟨b4, true, .box k.cs⟩]⟩ : AState); rfl), h0, h6, h9, f0, f1, f2, f3, f4, f5, f6, f7, f8, f9, f10, f11, f12, f13, f15, f16⟩⟩⟩
     , ⟨_, rfl, fun B S hBi hdep hcl => by
       rintro ⟨sl, rfl, h0, h6, h9, f0, f1, f2, f3, f4, f5, f6, f7, f8, f9, f10, f11, f12, f13, f15, f16⟩
       refine r_assign (f13 (hdep 13 rfl)) rfl ?_
       exact awl_nil ⟨rfl, _, rfl, h0, h6, h9, f0, f1, f2, f3, f4, f5, f6, f7, f8, f9, f10, f11, f12, f13, (fun h => rfl), f16⟩⟩⟩
     , ⟨_, rfl, fun B S hBi hdep hcl => by
       rintro ⟨sl, rfl, h0, h6, h9, f0, f1, f2, f3, f4, f5, f6, f7, f8, f9, f10, f11, f12, f13, f15, f16⟩
       refine r_assign rfl rfl ?_
       exact awl_nil ⟨rfl, _, rfl, h0, h6, h9, f0, f1, f2, f3, f4, f5, f6, f7, f8, f9, f10, f11, f12, f13, f15, (fun h => rfl)⟩⟩⟩
     (fun B S hall => by
      rintro ⟨sl, rfl, h0, h6, h9, f0, f1, f2, f3, f4, f5, f6, f7, f8, f9, f10, f11, f12, f13, f15, f16⟩
      rw [hall 14 (by decide)]
      refine x_then ?_
      refine awp_weaken (S' := ⟨46, [(0, .a (.pt b [.sl 4 ((its.map fun p : Sp × Int => p.1).map Sp.cs), .sl 1 ((its.map fun p : Sp × Int => p.2).map u64c), .sl 1 (([] : List AV).map fun x => [x])])), (6, .a (.v (.pointer (some ⟨b6, 0, none⟩)))), (9, .a (.v (.int .i64 (z)))), (7, .a (.v (.int .u64 x.2))), (8, .a (.v (Go.Value.bool true)))], [⟨b6, true, .box x.1.cs⟩, ⟨b4, true, .box k.cs⟩]⟩) ⟨rfl, (Slots.cons h0 (.refl _) (Slots.cons h6 (.refl _) (Slots.cons h9 (.refl _) (Slots.cons (f15 (hall 15 (by decide))) (.refl _) (Slots.cons (f16 (hall 16 (by decide))) (.refl _) Slots.nil))))), (List.Sublist.refl _)⟩ ?_
      refine awp_ret ?_
      exact ⟨(.inl rfl), _, [], ⟨_, _, _, (.box (by first | exact .mk' 0 rfl rfl TV.agg73 TV.sz73 rfl | exact .mk' 1 rfl rfl TV.agg73 TV.sz73 rfl | exact .mk' 2 rfl rfl TV.agg73 TV.sz73 rfl | exact .mk' 3 rfl rfl TV.agg73 TV.sz73 rfl | exact .mk' 4 rfl rfl TV.agg73 TV.sz73 rfl | exact .mk' 5 rfl rfl TV.agg73 TV.sz73 rfl)), (.tmp (by first | exact .mk rfl rfl | exact .nil rfl)), (.tmp (by first | exact .mk rfl rfl | exact .nil rfl)), rfl⟩, ⟨rfl, by rw [hfz]; rfl⟩, (List.nil_sublist _), (by simp)⟩)
theorem flA_eq (o : Option It) : ∃ (s : Sp) (v : Int) (ok : Bool), flA o = .tup [spA s, .v (.int .u64 v), boolA ok] := by cases o with | none => exact ⟨_, _, _, rfl⟩ | some z => exact ⟨_, _, _, rfl⟩
theorem Floor_none (t : TreeV) (hrt : rootT t = none) (k : Sp) : AC Try.prog 24 [encT t, spA k] [] (fun r nb => nb = [] ∧ r = flA (none)) := by
 refine ac_of_awpG (Res3K Try.prog (.cell 4 73) (.tmp 5) (.tmp 6)) (nt := 21) Try.func24 rfl rfl rfl (resK3_run rfl) (fun w0 C0 hq => ?_)
 refine awp_seq ?_
 refine awp_region ?_
 refine r_box rfl rfl rfl (fun b3 => ?_)
 refine r_alloc TV.zero73 rfl (fun b4 => ?_)
 refine r_assign rfl rfl ?_
 refine r_assign rfl rfl ?_
 refine awl_nil ?_
 refine x_then ?_
 refine awp_seq ?_
 refine awp_region ?_
 refine r_move rfl rfl ?_
 first | (refine r_loadAb 0 rfl rfl TV.agg73 TV.sz73 rfl rfl ?_) | (refine r_loadA rfl TV.agg73 TV.sz73 rfl rfl ?_) | (refine r_loadAb 1 rfl rfl TV.agg73 TV.sz73 rfl rfl ?_)
 refine r_call0 hq rfl rfl (.cons (.ev rfl rfl) (.cons (.ev rfl rfl) .nil)) (leaf_none t hrt k) rfl TV.en37 rfl (fun r hr => ?_)
 obtain rfl := hr
 refine r_move rfl rfl ?_
 refine r_extract rfl rfl rfl ?_
 refine r_extract rfl rfl rfl ?_
 refine r_assign rfl rfl ?_
 refine r_assign rfl rfl ?_
 refine awl_nil ?_
 refine x_then ?_
 refine awp_seq ?_
 refine awp_region ?_
 refine r_move rfl rfl ?_
 first | (refine r_loadAb 0 rfl rfl TV.agg73 TV.sz73 rfl rfl ?_) | (refine r_loadA rfl TV.agg73 TV.sz73 rfl rfl ?_) | (refine r_loadAb 1 rfl rfl TV.agg73 TV.sz73 rfl rfl ?_)
 refine r_call0 hq rfl rfl (.cons (.ev rfl rfl) (.cons (.ev rfl rfl) (.cons (.ev rfl rfl) .nil))) (near_nil k) rfl TV.en38 rfl (fun r hr => ?_)
 obtain rfl := hr
 obtain ⟨s1, v1, ok1, hfe⟩ := flA_eq (none)
 rw [hfe]
 refine r_extract rfl rfl rfl ?_
 refine r_extract rfl rfl rfl ?_
 refine r_extract rfl rfl rfl ?_
 first | (refine r_store 0 rfl rfl rfl TV.sz73 rfl rfl rfl ?_) | (refine r_store 1 rfl rfl rfl TV.sz73 rfl rfl rfl ?_)
 refine r_assign rfl rfl ?_
 refine r_assign rfl rfl ?_
 refine awl_nil ?_
 refine x_then ?_
 refine awp_ret ?_
 exact ⟨(.inl rfl), _, [], ⟨_, _, _, (.box (by first | exact .mk' 0 rfl rfl TV.agg73 TV.sz73 rfl | exact .mk' 1 rfl rfl TV.agg73 TV.sz73 rfl | exact .mk' 2 rfl rfl TV.agg73 TV.sz73 rfl | exact .mk' 3 rfl rfl TV.agg73 TV.sz73 rfl | exact .mk' 4 rfl rfl TV.agg73 TV.sz73 rfl | exact .mk' 5 rfl rfl TV.agg73 TV.sz73 rfl)), (.tmp (by first | exact .mk rfl rfl | exact .nil rfl)), (.tmp (by first | exact .mk rfl rfl | exact .nil rfl)), rfl⟩, ⟨rfl, rfl⟩, (List.nil_sublist _), (by simp)⟩
theorem Floor_some (t : TreeV) (h : Nat) (n : Nd h) (hrt : rootT t = some ⟨h, n⟩) (hw : wfC 1 h n.2) (hs : Srt (flat h n.2)) (k : Sp) : AC Try.prog 24 [encT t, spA k] [] (fun r nb => nb = [] ∧ r = flA (floorL (leafAt h n k) k)) := by
 refine ac_of_awpG (Res3K Try.prog (.cell 4 73) (.tmp 5) (.tmp 6)) (nt := 21) Try.func24 rfl rfl rfl (resK3_run rfl) (fun w0 C0 hq => ?_)
 have hlw := leafAt_wf h n k hw
 have hls := (leafAt_floor h hw (Nat.le_refl 1) hs (k := k)).2
 refine awp_seq ?_
 refine awp_region ?_
 refine r_box rfl rfl rfl (fun b3 => ?_)
 refine r_alloc TV.zero73 rfl (fun b4 => ?_)
 refine r_assign rfl rfl ?_
 refine r_assign rfl rfl ?_
 refine awl_nil ?_
 refine x_then ?_
 refine awp_seq ?_
 refine awp_region ?_
 refine r_move rfl rfl ?_
 first | (refine r_loadAb 0 rfl rfl TV.agg73 TV.sz73 rfl rfl ?_) | (refine r_loadA rfl TV.agg73 TV.sz73 rfl rfl ?_) | (refine r_loadAb 1 rfl rfl TV.agg73 TV.sz73 rfl rfl ?_)
 refine r_call0 hq rfl rfl (.cons (.ev rfl rfl) (.cons (.ev rfl rfl) .nil)) (leaf_some t h n hrt hw k) rfl TV.en37 rfl (fun r hr => ?_)
 obtain ⟨b, nx, rfl⟩ := hr
 refine r_move rfl rfl ?_
 refine r_extract rfl rfl rfl ?_
 refine r_extract rfl rfl rfl ?_
 refine r_assign rfl rfl ?_
 refine r_assign rfl rfl ?_
 refine awl_nil ?_
 refine x_then ?_
 refine awp_seq ?_
 refine awp_region ?_
 refine r_move rfl rfl ?_
 first | (refine r_loadAb 0 rfl rfl TV.agg73 TV.sz73 rfl rfl ?_) | (refine r_loadA rfl TV.agg73 TV.sz73 rfl rfl ?_) | (refine r_loadAb 1 rfl rfl TV.agg73 TV.sz73 rfl rfl ?_)
 refine r_call0 hq rfl rfl (.cons (.ev rfl rfl) (.cons (.ev rfl rfl) (.cons (.ev rfl rfl) .nil))) (near_leaf b (leafAt h n k) hls hlw.2 k) rfl TV.en38 rfl (fun r hr => ?_)
 obtain rfl := hr
 obtain ⟨s1, v1, ok1, hfe⟩ := flA_eq (floorL (leafAt h n k) k)
 rw [hfe]
 refine r_extract rfl rfl rfl ?_
 refine r_extract rfl rfl rfl ?_
 refine r_extract rfl rfl rfl ?_
 first | (refine r_store 0 rfl rfl rfl TV.sz73 rfl rfl rfl ?_) | (refine r_store 1 rfl rfl rfl TV.sz73 rfl rfl rfl ?_)
 refine r_assign rfl rfl ?_
 refine r_assign rfl rfl ?_
 refine awl_nil ?_
 refine x_then ?_
 refine awp_ret ?_
 exact ⟨(.inl rfl), _, [], ⟨_, _, _, (.box (by first | exact .mk' 0 rfl rfl TV.agg73 TV.sz73 rfl | exact .mk' 1 rfl rfl TV.agg73 TV.sz73 rfl | exact .mk' 2 rfl rfl TV.agg73 TV.sz73 rfl | exact .mk' 3 rfl rfl TV.agg73 TV.sz73 rfl | exact .mk' 4 rfl rfl TV.agg73 TV.sz73 rfl | exact .mk' 5 rfl rfl TV.agg73 TV.sz73 rfl)), (.tmp (by first | exact .mk rfl rfl | exact .nil rfl)), (.tmp (by first | exact .mk rfl rfl | exact .nil rfl)), rfl⟩, ⟨rfl, rfl⟩, (List.nil_sublist _), (by simp)⟩
theorem Floor_ok (t : TreeV) (x : List It) (hG : GoodT t x) (k : Sp) : AC Try.prog 24 [encT t, spA k] [] (fun r nb => nb = [] ∧ r = flA (floorL x k)) := by
  rw [← good_floor hG]
  have hw := hG.wf; have hf := hG.fl; have hs := hG.st
  unfold floorT
  cases hr : rootT t with
  | none => exact Floor_none t hr k
  | some s => obtain ⟨h, n⟩ := s; rw [hr] at hw hf; cases hf; exact Floor_some t h n hr hw.1 hs k
theorem flatPl : FlatT Try.prog 47 plK := ⟨by kernel_rfl, by kernel_rfl, by kernel_rfl, by kernel_rfl⟩
theorem top_of {x : List It} {p : Sp} {m : Int} {z : It} (h : floorL x (atM p m) = some z) (hp : samePl z.1 p) : topN x p m = some z.1.nu := by unfold topN; rw [h]; exact if_pos hp
theorem top_not {x : List It} {p : Sp} {m : Int} {z : It} (h : floorL x (atM p m) = some z) (hp : ¬ samePl z.1 p) : topN x p m = none := by unfold topN; rw [h]; exact if_neg hp
theorem top_non {x : List It} {p : Sp} {m : Int} (h : floorL x (atM p m) = none) : topN x p m = none := by unfold topN; rw [h]; rfl
theorem plV_same (a b : Sp) : decide (samePl a b) = true ↔ plV a = plV b := by rw [decide_eq_true_eq, ← plV_eq, decide_eq_true_eq]; rfl
theorem ixNew_ok : AC Try.prog 19 [] [] (fun r n => ∃ g, r = .v (.pointer (some ⟨g, 0, none⟩)) ∧ n = [⟨g, true, .box [encT (some (none, 0))]⟩]) := by
 refine ac_of_awp (rs := [0]) (nt := 4) Try.func19 rfl rfl rfl rfl (fun w0 C0 hq => ?_)
 refine awp_seq ?_
 refine awp_region ?_
 refine r_assign rfl rfl ?_
 refine awl_nil ?_
 refine x_then ?_
 refine awp_seq ?_
 refine awp_region ?_
 refine r_call0 hq rfl rfl .nil (New_ok) rfl TV.en34 rfl (fun r hr => ?_)
 obtain rfl := hr
 refine r_build (parts := [(0, .tmp 1)]) rfl TV.pl78 TV.zero78 rfl rfl rfl ?_
 refine r_box rfl rfl rfl (fun b3 => ?_)
 refine r_assign rfl rfl ?_
 refine awl_nil ?_
 refine x_then ?_
 refine awp_ret ?_
 exact ⟨(.inl rfl), _, [⟨b3, true, .box [encT (some (none, 0))]⟩], (.one (by first | exact .mk rfl rfl | exact .nil rfl)), ⟨b3, rfl, rfl⟩, (List.Sublist.refl _), (by simp)⟩
theorem Tree_ok (q : Rt × Int) (g : Nat) (f : Bool) : AC Try.prog 22 [.v (.pointer (some ⟨g, 0, none⟩))] [⟨g, f, .box [encT (some q)]⟩] (fun r n => n = [] ∧ r = encT (some q)) := by
 refine ac_of_awp (rs := [2]) (nt := 17) Try.func22 rfl rfl rfl rfl (fun w0 C0 hq => ?_)
 obtain ⟨rt, m⟩ := q
 refine awp_seq ?_
 refine awp_region ?_
 refine r_assign rfl rfl ?_
 refine awl_nil ?_
 refine x_then ?_
 refine awp_seq ?_
 refine awp_seq ?_
 refine awp_region ?_
 refine r_move rfl rfl ?_
 refine r_pnil rfl (by first | exact .pt _ _ | exact .nil | exact .v _ | exact .cp _) TV.un25 rfl ?_
 refine r_move rfl rfl ?_
 refine g_run rfl rfl rfl ?_
 refine r_move rfl rfl ?_
 refine g_run rfl rfl rfl ?_
 refine r_nilCheck rfl (by first | exact .pt _ _ | exact .v _ | exact .cp _) rfl ?_
 refine g_run rfl rfl rfl ?_
 first | (refine r_fieldpt rfl TV.f78_0 TV.sz29 rfl ?_) | (refine r_fieldcp rfl TV.f78_0 TV.sz29 rfl ?_) | (refine r_fieldb rfl TV.f78_0 TV.sz29 rfl ?_)
 refine g_run rfl rfl rfl ?_
 first | (refine r_load1b 0 rfl rfl rfl TV.agg29 rfl ?_) | (refine r_load1 rfl TV.agg29 rfl ?_)
 refine g_run rfl rfl rfl ?_
 refine r_pnil rfl (by first | exact .pt _ _ | exact .nil | exact .v _ | exact .cp _) TV.un29 rfl ?_
 refine r_pickF rfl rfl rfl rfl ?_
 refine awl_nil ?_
 refine x_then ?_
 refine awp_cond rfl (fun hc0 => ?_) (fun hc0 => ?_)
 ·
  exfalso; cases hc0
 ·
  refine awp_skip ?_
  refine x_then ?_
  refine awp_seq ?_
  refine awp_region ?_
  refine r_move rfl rfl ?_
  refine r_nilCheck rfl (by first | exact .pt _ _ | exact .v _ | exact .cp _) rfl ?_
  first | (refine r_fieldpt rfl TV.f78_0 TV.sz29 rfl ?_) | (refine r_fieldcp rfl TV.f78_0 TV.sz29 rfl ?_) | (refine r_fieldb rfl TV.f78_0 TV.sz29 rfl ?_)
  first | (refine r_load1b 0 rfl rfl rfl TV.agg29 rfl ?_) | (refine r_load1 rfl TV.agg29 rfl ?_)
  refine r_assign rfl rfl ?_
  refine awl_nil ?_
  refine x_then ?_
  refine awp_ret ?_
  exact ⟨(.inl rfl), _, [], (.one (by first | exact .mk rfl rfl | exact .nil rfl)), ⟨rfl, rfl⟩, (List.nil_sublist _), (by simp)⟩
theorem At_ok (t : TreeV) (x : List It) (hG : GoodT t x) (p : Sp) (m : Int) (g : Nat) (f : Bool) : AC Try.prog 25 [.v (.pointer (some ⟨g, 0, none⟩)), .agg (p.cs.take 3), .v (.int .u64 m)] [⟨g, f, .box [encT t]⟩] (fun r n => n = [] ∧ r = .tup [.v (.int .u64 ((topN x p m).getD 0)), boolA (topN x p m).isSome]) := by
 refine ac_of_awp (rs := [6, 7]) (nt := 35) Try.func25 rfl rfl rfl rfl (fun w0 C0 hq => ?_)
 obtain ⟨o, hfo⟩ : ∃ o, o = floorL x (atM p m) := ⟨_, rfl⟩
 obtain ⟨s, v, ok, hfe⟩ := flA_eq o
 have hcase : (ok = false ∧ o = none) ∨ (ok = true ∧ o = some (s, v)) := by
  cases o with
  | none => left; simp [flA, boolA] at hfe; exact ⟨hfe.2.2, rfl⟩
  | some z => right; simp [flA, boolA, spA, Sp.cs] at hfe; obtain ⟨⟨h1, h2, h3, h4⟩, h5, h6⟩ := hfe; exact ⟨h6, by rw [← h5, ← Sp.ext' h1 h2 h3 h4]⟩
 refine awp_seq ?_
 refine awp_region ?_
 refine r_box rfl rfl rfl (fun b4 => ?_)
 refine r_assign rfl rfl ?_
 refine r_assign rfl rfl ?_
 refine awl_nil ?_
 refine x_then ?_
 refine awp_seq ?_
 refine awp_seq ?_
 refine awp_region ?_
 refine r_move rfl rfl ?_
 refine r_pnil rfl (by first | exact .pt _ _ | exact .nil | exact .v _ | exact .cp _) TV.un25 rfl ?_
 refine awl_nil ?_
 refine x_then ?_
 refine awp_cond rfl (fun hc0 => ?_) (fun hc0 => ?_)
 ·
  exfalso; cases hc0
 ·
  refine awp_skip ?_
  refine x_then ?_
  refine awp_seq ?_
  refine awp_any (fun B S => ∃ b8 : Nat, ∃ sl : List (Nat × SV), S = ⟨35, sl, [⟨b4, true, .box (p.cs.take 3)⟩, ⟨g, false, .box [encT t]⟩] ++ cond (B 12) [⟨b8, true, .box (cond (B 13) s.cs [.v (.int .i64 0), .v (.int .i64 0), .v (.int .i64 0), .v (.int .u64 0)])⟩] []⟩ ∧ find 0 sl = some (.a (.v (.pointer (some ⟨g, 0, none⟩)))) ∧ find 2 sl = some (.a (.v (.int .u64 m))) ∧ find 4 sl = some (.a (.v (.pointer (some ⟨b4, 0, none⟩)))) ∧ (B 0 = true → find 14 sl = some (.a (.v (.pointer (some ⟨g, 0, none⟩))))) ∧ (B 1 = true → find 15 sl = some (.a (.v (.pointer (some ⟨g, 0, none⟩))))) ∧ (B 2 = true → find 16 sl = some (.a (.v (.pointer (some ⟨g, 0 + 0, none⟩))))) ∧ (B 3 = true → find 17 sl = some (.a (encT t))) ∧ (B 4 = true → find 18 sl = some (.a (.agg (p.cs.take 3)))) ∧ (B 5 = true → find 19 sl = some (.a (.v (.int .u64 m)))) ∧ (B 6 = true → find 20 sl = some (.a (spA (atM p m)))) ∧ (B 7 = true → find 21 sl = some (.a (.tup [spA s, .v (.int .u64 v), boolA ok]))) ∧ (B 8 = true → find 13 sl = some (.a (.tup [spA s, .v (.int .u64 v), boolA ok]))) ∧ (B 9 = true → find 22 sl = some (.a (spA s))) ∧ (B 10 = true → find 23 sl = some (.a (.v (.int .u64 v)))) ∧ (B 11 = true → find 24 sl = some (.a (boolA ok))) ∧ (B 12 = true → find 8 sl = some (.a (.v (.pointer (some ⟨b8, 0, none⟩))))) ∧ (B 14 = true → find 9 sl = some (.a (.v (.int .u64 v)))) ∧ (B 15 = true → find 10 sl = some (.a (boolA ok)))) TV.mixed rfl ⟨0, _, rfl, rfl, rfl, rfl, (fun h => by cases h), (fun h => by cases h), (fun h => by cases h), (fun h => by cases h), (fun h => by cases h), (fun h => by cases h), (fun h => by cases h), (fun h => by cases h), (fun h => by cases h), (fun h => by cases h), (fun h => by cases h), (fun h => by cases h), (fun h => by cases h), (fun h => by cases h), (fun h => by cases h)⟩ ⟨⟨⟨⟨⟨⟨⟨⟨⟨⟨⟨⟨⟨⟨⟨⟨trivial
   , ⟨_, rfl, fun B S hBi hdep hcl => by
     rintro ⟨b8, sl, rfl, h0, h2, h4, f0, f1, f2, f3, f4, f5, f6, f7, f8, f9, f10, f11, f12, f14, f15⟩
     refine r_move h0 rfl ?_
     exact awl_nil ⟨rfl, b8, _, rfl, h0, h2, h4, (fun h => rfl), f1, f2, f3, f4, f5, f6, f7, f8, f9, f10, f11, f12, f14, f15⟩⟩⟩
   , ⟨_, rfl, fun B S hBi hdep hcl => by
     rintro ⟨b8, sl, rfl, h0, h2, h4, f0, f1, f2, f3, f4, f5, f6, f7, f8, f9, f10, f11, f12, f14, f15⟩
     refine r_nilCheck (f0 (hdep 0 rfl)) (by first | exact .pt _ _ | exact .v _ | exact .cp _) rfl ?_
     exact awl_nil ⟨rfl, b8, _, rfl, h0, h2, h4, f0, (fun h => rfl), f2, f3, f4, f5, f6, f7, f8, f9, f10, f11, f12, f14, f15⟩⟩⟩
   , ⟨_, rfl, fun B S hBi hdep hcl => by
     rintro ⟨b8, sl, rfl, h0, h2, h4, f0, f1, f2, f3, f4, f5, f6, f7, f8, f9, f10, f11, f12, f14, f15⟩
     first | (refine r_fieldpt (f1 (hdep 1 rfl)) TV.f78_0 TV.sz29 rfl ?_) | (refine r_fieldcp (f1 (hdep 1 rfl)) TV.f78_0 TV.sz29 rfl ?_) | (refine r_fieldb (f1 (hdep 1 rfl)) TV.f78_0 TV.sz29 rfl ?_)
     exact awl_nil ⟨rfl, b8, _, rfl, h0, h2, h4, f0, f1, (fun h => rfl), f3, f4, f5, f6, f7, f8, f9, f10, f11, f12, f14, f15⟩⟩⟩
   , ⟨_, rfl, fun B S hBi hdep hcl => by
     rintro ⟨b8, sl, rfl, h0, h2, h4, f0, f1, f2, f3, f4, f5, f6, f7, f8, f9, f10, f11, f12, f14, f15⟩
     first | (refine r_load1b 0 (f2 (hdep 2 rfl)) rfl rfl TV.agg29 rfl ?_) | (refine r_load1 (f2 (hdep 2 rfl)) TV.agg29 rfl ?_) | (refine r_load1b 1 (f2 (hdep 2 rfl)) rfl rfl TV.agg29 rfl ?_)
     exact awl_nil ⟨rfl, b8, _, rfl, h0, h2, h4, f0, f1, f2, (fun h => rfl), f4, f5, f6, f7, f8, f9, f10, f11, f12, f14, f15⟩⟩⟩
   , ⟨_, rfl, fun B S hBi hdep hcl => by
     rintro ⟨b8, sl, rfl, h0, h2, h4, f0, f1, f2, f3, f4, f5, f6, f7, f8, f9, f10, f11, f12, f14, f15⟩
     first | (refine r_loadAb 0 h4 rfl TV.agg47 TV.sz47 rfl rfl ?_) | (refine r_loadA h4 TV.agg47 TV.sz47 rfl rfl ?_) | (refine r_loadAb 1 h4 rfl TV.agg47 TV.sz47 rfl rfl ?_)
     exact awl_nil ⟨rfl, b8, _, rfl, h0, h2, h4, f0, f1, f2, f3, (fun h => rfl), f5, f6, f7, f8, f9, f10, f11, f12, f14, f15⟩⟩⟩
   , ⟨_, rfl, fun B S hBi hdep hcl => by
     rintro ⟨b8, sl, rfl, h0, h2, h4, f0, f1, f2, f3, f4, f5, f6, f7, f8, f9, f10, f11, f12, f14, f15⟩
     refine r_move h2 rfl ?_
     exact awl_nil ⟨rfl, b8, _, rfl, h0, h2, h4, f0, f1, f2, f3, f4, (fun h => rfl), f6, f7, f8, f9, f10, f11, f12, f14, f15⟩⟩⟩
   , ⟨_, rfl, fun B S hBi hdep hcl => by
     rintro ⟨b8, sl, rfl, h0, h2, h4, f0, f1, f2, f3, f4, f5, f6, f7, f8, f9, f10, f11, f12, f14, f15⟩
     refine r_build (parts := [(0, .tmp 18), (1, .tmp 19)]) rfl TV.pl73 TV.zero73 (parts_cons (f4 (hdep 4 rfl)) (parts_cons (f5 (hdep 5 rfl)) parts_nil)) rfl rfl ?_
     exact awl_nil ⟨rfl, b8, _, rfl, h0, h2, h4, f0, f1, f2, f3, f4, f5, (fun h => rfl), f7, f8, f9, f10, f11, f12, f14, f15⟩⟩⟩
   , ⟨_, rfl, fun B S hBi hdep hcl => by
     rintro ⟨b8, sl, rfl, h0, h2, h4, f0, f1, f2, f3, f4, f5, f6, f7, f8, f9, f10, f11, f12, f14, f15⟩
     refine r_call0 hq rfl rfl (.cons (.ev (f3 (hdep 3 rfl)) rfl) (.cons (.ev (f6 (hdep 6 rfl)) rfl) .nil)) (Floor_ok t x hG (atM p m)) rfl TV.en24 rfl (fun r hr => ?_)
     obtain rfl := hr
     rw [← hfo, hfe]
     exact awl_nil ⟨rfl, b8, _, rfl, h0, h2, h4, f0, f1, f2, f3, f4, f5, f6, (fun h => rfl), f8, f9, f10, f11, f12, f14, f15⟩⟩⟩
   , ⟨_, rfl, fun B S hBi hdep hcl => by
     rintro ⟨b8, sl, rfl, h0, h2, h4, f0, f1, f2, f3, f4, f5, f6, f7, f8, f9, f10, f11, f12, f14, f15⟩
     refine r_move (f7 (hdep 7 rfl)) rfl ?_
     exact awl_nil ⟨rfl, b8, _, rfl, h0, h2, h4, f0, f1, f2, f3, f4, f5, f6, f7, (fun h => rfl), f9, f10, f11, f12, f14, f15⟩⟩⟩
   , ⟨_, rfl, fun B S hBi hdep hcl => by
     rintro ⟨b8, sl, rfl, h0, h2, h4, f0, f1, f2, f3, f4, f5, f6, f7, f8, f9, f10, f11, f12, f14, f15⟩
     refine r_extract (f8 (hdep 8 rfl)) rfl rfl ?_
     exact awl_nil ⟨rfl, b8, _, rfl, h0, h2, h4, f0, f1, f2, f3, f4, f5, f6, f7, f8, (fun h => rfl), f10, f11, f12, f14, f15⟩⟩⟩
   , ⟨_, rfl, fun B S hBi hdep hcl => by
     rintro ⟨b8, sl, rfl, h0, h2, h4, f0, f1, f2, f3, f4, f5, f6, f7, f8, f9, f10, f11, f12, f14, f15⟩
     refine r_extract (f8 (hdep 8 rfl)) rfl rfl ?_
     exact awl_nil ⟨rfl, b8, _, rfl, h0, h2, h4, f0, f1, f2, f3, f4, f5, f6, f7, f8, f9, (fun h => rfl), f11, f12, f14, f15⟩⟩⟩
   , ⟨_, rfl, fun B S hBi hdep hcl => by
     rintro ⟨b8, sl, rfl, h0, h2, h4, f0, f1, f2, f3, f4, f5, f6, f7, f8, f9, f10, f11, f12, f14, f15⟩
     refine r_extract (f8 (hdep 8 rfl)) rfl rfl ?_
     exact awl_nil ⟨rfl, b8, _, rfl, h0, h2, h4, f0, f1, f2, f3, f4, f5, f6, f7, f8, f9, f10, (fun h => rfl), f12, f14, f15⟩⟩⟩
   , ⟨_, rfl, fun B S hBi hdep hcl => by
     rintro ⟨b8, sl, rfl, h0, h2, h4, f0, f1, f2, f3, f4, f5, f6, f7, f8, f9, f10, f11, f12, f14, f15⟩
     have e13 : B 13 = false := by cases h : B 13 with | false => rfl | true => exact absurd (hcl 13 12 h rfl) (by rw [hBi]; decide)
     rw [hBi, e13]
     refine r_alloc TV.zero73 rfl (fun b8 => ?_)
     refine awl_imp (imp_perm (objs := [⟨b4, true, .box (p.cs.take 3)⟩, ⟨g, false, .box [encT t]⟩] ++ [⟨b8, true, .box [.v (.int .i64 0), .v (.int .i64 0), .v (.int .i64 0), .v (.int .u64 0)]⟩]) (List.perm_append_comm (l₂ := [_]))) ?_
     exact awl_nil ⟨rfl, b8, ((8, .a (.v (.pointer (some ⟨b8, 0, none⟩)))) :: sl), (by show _ = (⟨35, _, [⟨b4, true, .box (p.cs.take 3)⟩, ⟨g, false, .box [encT t]⟩] ++ cond true [⟨b8, true, .box (cond (B 13) s.cs [.v (.int .i64 0), .v (.int .i64 0), .v (.int .i64 0), .v (.int .u64 0)])⟩] []⟩ : AState); rw [e13]; rfl), h0, h2, h4, f0, f1, f2, f3, f4, f5, f6, f7, f8, f9, f10, f11, (fun h => rfl), f14, f15⟩⟩⟩
   , ⟨_, rfl, fun B S hBi hdep hcl => by
     rintro ⟨b8, sl, rfl, h0, h2, h4, f0, f1, f2, f3, f4, f5, f6, f7, f8, f9, f10, f11, f12, f14, f15⟩
     have e12 : B 12 = true := hdep 12 rfl
     rw [hBi, e12]
     refine r_store 2 (f12 e12) rfl (f9 (hdep 9 rfl)) TV.sz73 rfl rfl rfl ?_
     exact awl_nil ⟨rfl, b8, sl, (by show _ = (⟨35, _, [⟨b4, true, .box (p.cs.take 3)⟩, ⟨g, false, .box [encT t]⟩] ++ cond (B 12) [⟨b8, true, .box (cond true s.cs [.v (.int .i64 0), .v (.int .i64 0), .v (.int .i64 0), .v (.int .u64 0)])⟩] []⟩ : AState); rw [e12]; rfl), h0, h2, h4, f0, f1, f2, f3, f4, f5, f6, f7, f8, f9, f10, f11, f12, f14, f15⟩⟩⟩
   , ⟨_, rfl, fun B S hBi hdep hcl => by
     rintro ⟨b8, sl, rfl, h0, h2, h4, f0, f1, f2, f3, f4, f5, f6, f7, f8, f9, f10, f11, f12, f14, f15⟩
     refine r_assign (f10 (hdep 10 rfl)) rfl ?_
     exact awl_nil ⟨rfl, b8, _, rfl, h0, h2, h4, f0, f1, f2, f3, f4, f5, f6, f7, f8, f9, f10, f11, f12, (fun h => rfl), f15⟩⟩⟩
   , ⟨_, rfl, fun B S hBi hdep hcl => by
     rintro ⟨b8, sl, rfl, h0, h2, h4, f0, f1, f2, f3, f4, f5, f6, f7, f8, f9, f10, f11, f12, f14, f15⟩
     refine r_assign (f11 (hdep 11 rfl)) rfl ?_
     exact awl_nil ⟨rfl, b8, _, rfl, h0, h2, h4, f0, f1, f2, f3, f4, f5, f6, f7, f8, f9, f10, f11, f12, f14, (fun h => rfl)⟩⟩⟩
   (fun B S hall => by
    rintro ⟨b8, sl, rfl, h0, h2, h4, f0, f1, f2, f3, f4, f5, f6, f7, f8, f9, f10, f11, f12, f14, f15⟩
    rw [hall 12 (by decide), hall 13 (by decide)]
    refine x_then ?_
    refine awp_weaken (S' := ⟨35, [(0, .a (.v (.pointer (some ⟨g, 0, none⟩)))), (2, .a (.v (.int .u64 m))), (4, .a (.v (.pointer (some ⟨b4, 0, none⟩)))), (8, .a (.v (.pointer (some ⟨b8, 0, none⟩)))), (10, .a (boolA ok))], [⟨b4, true, .box (p.cs.take 3)⟩, ⟨g, false, .box [encT t]⟩, ⟨b8, true, .box s.cs⟩]⟩) ⟨rfl, (Slots.cons h0 (.refl _) (Slots.cons h2 (.refl _) (Slots.cons h4 (.refl _) (Slots.cons (f12 (hall 12 (by decide))) (.refl _) (Slots.cons (f15 (hall 15 (by decide))) (.refl _) Slots.nil))))), (List.Sublist.refl _)⟩ ?_
    refine awp_seq ?_
    refine awp_seq ?_
    rcases hcase with ⟨rfl, rfl⟩ | ⟨rfl, rfl⟩
    ·
     have htp : topN x p m = none := top_non hfo.symm
     refine awp_region ?_
     refine r_move rfl rfl ?_
     refine r_not rfl rfl ?_
     refine r_move rfl rfl ?_
     refine g_skip rfl rfl rfl rfl ?_
     refine g_skip rfl rfl rfl rfl ?_
     refine g_skip rfl rfl rfl rfl ?_
     refine g_skip rfl rfl rfl rfl ?_
     refine r_pickT rfl rfl rfl rfl ?_
     refine awl_nil ?_
     refine x_then ?_
     refine awp_condT rfl ?_
     refine awp_seq ?_
     refine awp_region ?_
     refine r_assign rfl rfl ?_
     refine r_assign rfl rfl ?_
     refine awl_nil ?_
     refine x_then ?_
     refine awp_ret ?_
     refine x_thenR ?_
     exact ⟨(.inl rfl), _, [], (.two (by first | exact .mk rfl rfl | exact .nil rfl) (by first | exact .mk rfl rfl | exact .nil rfl)), ⟨rfl, by rw [htp]; rfl⟩, (List.nil_sublist _), (by simp)⟩
    ·
     refine awp_region ?_
     refine r_move rfl rfl ?_
     refine r_not rfl rfl ?_
     refine r_move rfl rfl ?_
     refine g_run rfl rfl rfl ?_
     first | (refine r_fieldpt rfl TV.f73_0 TV.sz47 rfl ?_) | (refine r_fieldcp rfl TV.f73_0 TV.sz47 rfl ?_) | (refine r_fieldb rfl TV.f73_0 TV.sz47 rfl ?_)
     refine g_run rfl rfl rfl ?_
     first | (refine r_loadAb 0 rfl rfl TV.agg47 TV.sz47 rfl rfl ?_) | (refine r_loadA rfl TV.agg47 TV.sz47 rfl rfl ?_) | (refine r_loadAb 1 rfl rfl TV.agg47 TV.sz47 rfl rfl ?_) | (refine r_loadAb 2 rfl rfl TV.agg47 TV.sz47 rfl rfl ?_)
     refine g_run rfl rfl rfl ?_
     first | (refine r_loadAb 0 rfl rfl TV.agg47 TV.sz47 rfl rfl ?_) | (refine r_loadA rfl TV.agg47 TV.sz47 rfl rfl ?_) | (refine r_loadAb 1 rfl rfl TV.agg47 TV.sz47 rfl rfl ?_) | (refine r_loadAb 2 rfl rfl TV.agg47 TV.sz47 rfl rfl ?_)
     refine g_run rfl rfl rfl ?_
     refine r_fne rfl rfl flatPl (isVal_plT s) (isVal_plT p) (plV_kn _) (plV_kn _) (decide (samePl s p)) (plV_same s p) rfl ?_
     refine r_pickF rfl rfl rfl rfl ?_
     refine awl_nil ?_
     refine x_then ?_
     refine awp_cond rfl (fun hc1 => ?_) (fun hc1 => ?_)
     ·
      have htp : topN x p m = none := top_not hfo.symm (by have := hc1; simp at this; exact this)
      refine awp_seq ?_
      refine awp_region ?_
      refine r_assign rfl rfl ?_
      refine r_assign rfl rfl ?_
      refine awl_nil ?_
      refine x_then ?_
      refine awp_ret ?_
      refine x_thenR ?_
      exact ⟨(.inl rfl), _, [], (.two (by first | exact .mk rfl rfl | exact .nil rfl) (by first | exact .mk rfl rfl | exact .nil rfl)), ⟨rfl, by rw [htp]; rfl⟩, (List.nil_sublist _), (by simp)⟩
     ·
      have htp : topN x p m = some s.nu := top_of hfo.symm (by have := hc1; simp at this; exact this)
      refine awp_skip ?_
      refine x_then ?_
      refine awp_seq ?_
      refine awp_region ?_
      first | (refine r_fieldpt rfl TV.f73_1 TV.sz31 rfl ?_) | (refine r_fieldcp rfl TV.f73_1 TV.sz31 rfl ?_) | (refine r_fieldb rfl TV.f73_1 TV.sz31 rfl ?_)
      first | (refine r_load1b 0 rfl rfl rfl TV.agg31 rfl ?_) | (refine r_load1 rfl TV.agg31 rfl ?_) | (refine r_load1b 1 rfl rfl rfl TV.agg31 rfl ?_) | (refine r_load1b 2 rfl rfl rfl TV.agg31 rfl ?_)
      refine r_assign rfl rfl ?_
      refine r_assign rfl rfl ?_
      refine awl_nil ?_
      refine x_then ?_
      refine awp_ret ?_
      exact ⟨(.inl rfl), _, [], (.two (by first | exact .mk rfl rfl | exact .nil rfl) (by first | exact .mk rfl rfl | exact .nil rfl)), ⟨rfl, by rw [htp]; rfl⟩, (List.nil_sublist _), (by simp)⟩)
theorem ixPut_ok (t : TreeV) (x : List It) (hI : Idx t x) (hl : x.length ≤ 1000) (p : Sp) (hp : Inr p) (hput : (0 < p.nu ∧ ∀ v, topN x p 18446744073709551615 = some v → v < p.nu)) (g : Nat) : AW Try.prog 12 [.v (.pointer (some ⟨g, 0, none⟩)), .agg (p.cs.take 3), .v (.int .u64 p.nu)] [] [⟨g, true, .box [encT t]⟩] (fun r n => r = .v (.int .i64 0) ∧ ∃ t', n = [⟨g, true, .box [encT t']⟩] ∧ Idx t' (refPut x p p.nu)) := by
 refine aw_of_awp (rs := [6]) (nt := 39) (so := [⟨g, true, .box [encT t]⟩]) Try.func12 rfl rfl rfl rfl rfl (fun w0 C0 hq => ?_)
 have htn := good_len hI.good hl
 obtain ⟨hp0, hpv⟩ := hput
 refine awp_seq ?_
 refine awp_region ?_
 refine r_box rfl rfl rfl (fun b4 => ?_)
 refine r_assign rfl rfl ?_
 refine awl_nil ?_
 refine x_then ?_
 refine awp_seq ?_
 refine awp_seq ?_
 refine awp_region ?_
 refine r_move rfl rfl ?_
 refine r_pnil rfl (by first | exact .pt _ _ | exact .nil | exact .v _ | exact .cp _) TV.un25 rfl ?_
 refine r_move rfl rfl ?_
 refine g_run rfl rfl rfl ?_
 refine r_move rfl rfl ?_
 refine g_run rfl rfl rfl ?_
 refine r_cmp rfl rfl rfl rfl ?_
 refine r_pickF rfl rfl rfl rfl ?_
 refine awl_nil ?_
 refine x_then ?_
 refine awp_cond rfl (fun hc0 => ?_) (fun hc0 => ?_)
 ·
  exfalso; have := of_decide_eq_true (p := p.nu = 0) (by simpa using hc0); omega
 ·
  refine awp_skip ?_
  refine x_then ?_
  refine awp_seq ?_
  refine awp_seq ?_
  refine awp_region ?_
  refine r_move rfl rfl ?_
  first | (refine r_loadAb 0 rfl rfl TV.agg47 TV.sz47 rfl rfl ?_) | (refine r_loadA rfl TV.agg47 TV.sz47 rfl rfl ?_) | (refine r_loadAb 1 rfl rfl TV.agg47 TV.sz47 rfl rfl ?_)
  refine r_callO hq rfl rfl (.cons (.ev rfl rfl) (.cons (.ev rfl rfl) (.cons (.ev rfl rfl) .nil))) (At_ok t x hI.good p 18446744073709551615 g true) rfl TV.en25 (.cons _ (.cons_cons _ (List.nil_sublist _))) rfl (fun r nobjs hr => ?_)
  obtain ⟨rfl, rfl⟩ := hr
  refine r_move rfl rfl ?_
  refine r_extract rfl rfl rfl ?_
  refine r_extract rfl rfl rfl ?_
  refine r_assign rfl rfl ?_
  refine r_assign rfl rfl ?_
  refine awl_nil ?_
  refine x_then ?_
  refine awp_seq ?_
  refine awp_region ?_
  refine r_move rfl rfl ?_
  refine r_move rfl rfl ?_
  refine g_cases (t' := 22) rfl (fun hg22 => ?_) (fun hg22 => ?_)
  ·
   refine g_run rfl rfl hg22 ?_
   refine r_move rfl rfl ?_
   refine g_run rfl rfl hg22 ?_
   refine r_move rfl rfl ?_
   refine g_run rfl rfl hg22 ?_
   refine r_cmp rfl rfl rfl rfl ?_
   refine r_pickT rfl hg22 rfl rfl ?_
   refine awl_nil ?_
   refine x_then ?_
   refine awp_cond rfl (fun hc1 => ?_) (fun hc1 => ?_)
   ·
    exfalso; obtain ⟨v, hv⟩ := Option.isSome_iff_exists.1 hg22; have h2 := hpv v hv; rw [hv] at hc1; have h3 := of_decide_eq_true hc1; simp at h3; omega
   ·
    refine awp_skip ?_
    refine x_then ?_
    refine awp_seq ?_
    refine awp_any (fun B S => ∃ t2 : TreeV, ∃ sl : List (Nat × SV), S = ⟨39, sl, [⟨b4, true, .box (p.cs.take 3)⟩, ⟨g, true, .box [encT (cond (B 12) t2 t)]⟩]⟩ ∧ find 0 sl = some (.a (.v (.pointer (some ⟨g, 0, none⟩)))) ∧ find 2 sl = some (.a (.v (.int .u64 p.nu))) ∧ find 4 sl = some (.a (.v (.pointer (some ⟨b4, 0, none⟩)))) ∧ (B 0 = true → find 27 sl = some (.a (.v (.pointer (some ⟨g, 0, none⟩))))) ∧ (B 1 = true → find 28 sl = some (.a (.v (.pointer (some ⟨g, 0, none⟩))))) ∧ (B 2 = true → find 29 sl = some (.a (.v (.pointer (some ⟨g, 0, none⟩))))) ∧ (B 3 = true → find 30 sl = some (.a (.v (.pointer (some ⟨g, 0 + 0, none⟩))))) ∧ (B 4 = true → find 31 sl = some (.a (encT t))) ∧ (B 5 = true → find 32 sl = some (.a (.agg (p.cs.take 3)))) ∧ (B 6 = true → find 33 sl = some (.a (.v (.int .u64 p.nu)))) ∧ (B 7 = true → find 34 sl = some (.a (spA p))) ∧ (B 8 = true → find 35 sl = some (.a (.v (.int .u64 p.nu)))) ∧ (B 9 = true → find 36 sl = some (.a (encT t2))) ∧ (B 10 = true → find 37 sl = some (.a (.v (.pointer (some ⟨g, 0, none⟩))))) ∧ (B 11 = true → find 38 sl = some (.a (.v (.pointer (some ⟨g, 0 + 0, none⟩))))) ∧ (B 9 = true → PutT t p p.nu t2)) TV.mixed rfl ⟨none, _, rfl, rfl, rfl, rfl, (fun h => by cases h), (fun h => by cases h), (fun h => by cases h), (fun h => by cases h), (fun h => by cases h), (fun h => by cases h), (fun h => by cases h), (fun h => by cases h), (fun h => by cases h), (fun h => by cases h), (fun h => by cases h), (fun h => by cases h), (fun h => by cases h)⟩ ⟨⟨⟨⟨⟨⟨⟨⟨⟨⟨⟨⟨⟨trivial
     , ⟨_, rfl, fun B S hBi hdep hcl => by
       rintro ⟨t2, sl, rfl, h0, h2, h4, f0, f1, f2, f3, f4, f5, f6, f7, f8, f9, f10, f11, p9⟩
       refine r_move h0 rfl ?_
       exact awl_nil ⟨rfl, t2, _, rfl, h0, h2, h4, (fun h => rfl), f1, f2, f3, f4, f5, f6, f7, f8, f9, f10, f11, p9⟩⟩⟩
     , ⟨_, rfl, fun B S hBi hdep hcl => by
       rintro ⟨t2, sl, rfl, h0, h2, h4, f0, f1, f2, f3, f4, f5, f6, f7, f8, f9, f10, f11, p9⟩
       refine r_move h0 rfl ?_
       exact awl_nil ⟨rfl, t2, _, rfl, h0, h2, h4, f0, (fun h => rfl), f2, f3, f4, f5, f6, f7, f8, f9, f10, f11, p9⟩⟩⟩
     , ⟨_, rfl, fun B S hBi hdep hcl => by
       rintro ⟨t2, sl, rfl, h0, h2, h4, f0, f1, f2, f3, f4, f5, f6, f7, f8, f9, f10, f11, p9⟩
       refine r_nilCheck (f1 (hdep 1 rfl)) (by first | exact .pt _ _ | exact .v _ | exact .cp _) rfl ?_
       exact awl_nil ⟨rfl, t2, _, rfl, h0, h2, h4, f0, f1, (fun h => rfl), f3, f4, f5, f6, f7, f8, f9, f10, f11, p9⟩⟩⟩
     , ⟨_, rfl, fun B S hBi hdep hcl => by
       rintro ⟨t2, sl, rfl, h0, h2, h4, f0, f1, f2, f3, f4, f5, f6, f7, f8, f9, f10, f11, p9⟩
       first | (refine r_fieldpt (f2 (hdep 2 rfl)) TV.f78_0 TV.sz29 rfl ?_) | (refine r_fieldcp (f2 (hdep 2 rfl)) TV.f78_0 TV.sz29 rfl ?_) | (refine r_fieldb (f2 (hdep 2 rfl)) TV.f78_0 TV.sz29 rfl ?_)
       exact awl_nil ⟨rfl, t2, _, rfl, h0, h2, h4, f0, f1, f2, (fun h => rfl), f4, f5, f6, f7, f8, f9, f10, f11, p9⟩⟩⟩
     , ⟨_, rfl, fun B S hBi hdep hcl => by
       rintro ⟨t2, sl, rfl, h0, h2, h4, f0, f1, f2, f3, f4, f5, f6, f7, f8, f9, f10, f11, p9⟩
       have e12 : B 12 = false := by cases h : B 12 with | false => rfl | true => exact absurd (hcl 12 4 h rfl) (by rw [hBi]; decide)
       rw [e12]
       first | (refine r_load1b 0 (f3 (hdep 3 rfl)) rfl rfl TV.agg29 rfl ?_) | (refine r_load1 (f3 (hdep 3 rfl)) TV.agg29 rfl ?_) | (refine r_load1b 1 (f3 (hdep 3 rfl)) rfl rfl TV.agg29 rfl ?_)
       exact awl_nil ⟨rfl, t2, ((31, .a (encT t)) :: sl), (by show _ = (⟨39, _, [⟨b4, true, .box (p.cs.take 3)⟩, ⟨g, true, .box [encT (cond (B 12) t2 t)]⟩]⟩ : AState); rw [e12]; rfl), h0, h2, h4, f0, f1, f2, f3, (fun h => rfl), f5, f6, f7, f8, f9, f10, f11, p9⟩⟩⟩
     , ⟨_, rfl, fun B S hBi hdep hcl => by
       rintro ⟨t2, sl, rfl, h0, h2, h4, f0, f1, f2, f3, f4, f5, f6, f7, f8, f9, f10, f11, p9⟩
       first | (refine r_loadAb 0 h4 rfl TV.agg47 TV.sz47 rfl rfl ?_) | (refine r_loadA h4 TV.agg47 TV.sz47 rfl rfl ?_) | (refine r_loadAb 1 h4 rfl TV.agg47 TV.sz47 rfl rfl ?_)
       exact awl_nil ⟨rfl, t2, _, rfl, h0, h2, h4, f0, f1, f2, f3, f4, (fun h => rfl), f6, f7, f8, f9, f10, f11, p9⟩⟩⟩
     , ⟨_, rfl, fun B S hBi hdep hcl => by
       rintro ⟨t2, sl, rfl, h0, h2, h4, f0, f1, f2, f3, f4, f5, f6, f7, f8, f9, f10, f11, p9⟩
       refine r_move h2 rfl ?_
       exact awl_nil ⟨rfl, t2, _, rfl, h0, h2, h4, f0, f1, f2, f3, f4, f5, (fun h => rfl), f7, f8, f9, f10, f11, p9⟩⟩⟩
     , ⟨_, rfl, fun B S hBi hdep hcl => by
       rintro ⟨t2, sl, rfl, h0, h2, h4, f0, f1, f2, f3, f4, f5, f6, f7, f8, f9, f10, f11, p9⟩
       refine r_build (parts := [(0, .tmp 32), (1, .tmp 33)]) rfl TV.pl73 TV.zero73 (parts_cons (f5 (hdep 5 rfl)) (parts_cons (f6 (hdep 6 rfl)) parts_nil)) rfl rfl ?_
       exact awl_nil ⟨rfl, t2, _, rfl, h0, h2, h4, f0, f1, f2, f3, f4, f5, f6, (fun h => rfl), f8, f9, f10, f11, p9⟩⟩⟩
     , ⟨_, rfl, fun B S hBi hdep hcl => by
       rintro ⟨t2, sl, rfl, h0, h2, h4, f0, f1, f2, f3, f4, f5, f6, f7, f8, f9, f10, f11, p9⟩
       refine r_move h2 rfl ?_
       exact awl_nil ⟨rfl, t2, _, rfl, h0, h2, h4, f0, f1, f2, f3, f4, f5, f6, f7, (fun h => rfl), f9, f10, f11, p9⟩⟩⟩
     , ⟨_, rfl, fun B S hBi hdep hcl => by
       rintro ⟨t2, sl, rfl, h0, h2, h4, f0, f1, f2, f3, f4, f5, f6, f7, f8, f9, f10, f11, p9⟩
       have e12 : B 12 = false := by cases h : B 12 with | false => rfl | true => exact absurd (hcl 12 9 h rfl) (by rw [hBi]; decide)
       rw [e12]
       refine r_call0 hq rfl rfl (.cons (.ev (f4 (hdep 4 rfl)) rfl) (.cons (.ev (f7 (hdep 7 rfl)) rfl) (.cons (.ev (f8 (hdep 8 rfl)) rfl) .nil))) (TPut_ok t hI.good.wf htn p p.nu) rfl TV.en26 rfl (fun r hr => ?_)
       obtain ⟨t2, htq, rfl⟩ := hr
       exact awl_nil ⟨rfl, t2, ((36, .a (encT t2)) :: sl), (by show _ = (⟨39, _, [⟨b4, true, .box (p.cs.take 3)⟩, ⟨g, true, .box [encT (cond (B 12) t2 t)]⟩]⟩ : AState); rw [e12]; rfl), h0, h2, h4, f0, f1, f2, f3, f4, f5, f6, f7, f8, (fun h => rfl), f10, f11, (fun _ => htq)⟩⟩⟩
     , ⟨_, rfl, fun B S hBi hdep hcl => by
       rintro ⟨t2, sl, rfl, h0, h2, h4, f0, f1, f2, f3, f4, f5, f6, f7, f8, f9, f10, f11, p9⟩
       refine r_nilCheck (f0 (hdep 0 rfl)) (by first | exact .pt _ _ | exact .v _ | exact .cp _) rfl ?_
       exact awl_nil ⟨rfl, t2, _, rfl, h0, h2, h4, f0, f1, f2, f3, f4, f5, f6, f7, f8, f9, (fun h => rfl), f11, p9⟩⟩⟩
     , ⟨_, rfl, fun B S hBi hdep hcl => by
       rintro ⟨t2, sl, rfl, h0, h2, h4, f0, f1, f2, f3, f4, f5, f6, f7, f8, f9, f10, f11, p9⟩
       first | (refine r_fieldpt (f10 (hdep 10 rfl)) TV.f78_0 TV.sz29 rfl ?_) | (refine r_fieldcp (f10 (hdep 10 rfl)) TV.f78_0 TV.sz29 rfl ?_) | (refine r_fieldb (f10 (hdep 10 rfl)) TV.f78_0 TV.sz29 rfl ?_)
       exact awl_nil ⟨rfl, t2, _, rfl, h0, h2, h4, f0, f1, f2, f3, f4, f5, f6, f7, f8, f9, f10, (fun h => rfl), p9⟩⟩⟩
     , ⟨_, rfl, fun B S hBi hdep hcl => by
       rintro ⟨t2, sl, rfl, h0, h2, h4, f0, f1, f2, f3, f4, f5, f6, f7, f8, f9, f10, f11, p9⟩
       rw [hBi]
       first | (refine r_storeT 0 (f11 (hdep 11 rfl)) rfl (f9 (hdep 9 rfl)) TV.sz29 ?_) | (refine r_storeT 1 (f11 (hdep 11 rfl)) rfl (f9 (hdep 9 rfl)) TV.sz29 ?_)
       exact awl_nil ⟨rfl, t2, sl, (by show _ = (⟨39, _, [⟨b4, true, .box (p.cs.take 3)⟩, ⟨g, true, .box [encT (cond true t2 t)]⟩]⟩ : AState); rfl), h0, h2, h4, f0, f1, f2, f3, f4, f5, f6, f7, f8, f9, f10, f11, p9⟩⟩⟩
     (fun B S hall => by
      rintro ⟨t2, sl, rfl, h0, h2, h4, f0, f1, f2, f3, f4, f5, f6, f7, f8, f9, f10, f11, p9⟩
      rw [hall 12 (by decide)]
      have hpx := p9 (hall 9 (by decide))
      refine x_then ?_
      refine awp_weaken (S' := ⟨39, [(0, .a (.v (.pointer (some ⟨g, 0, none⟩)))), (2, .a (.v (.int .u64 p.nu))), (4, .a (.v (.pointer (some ⟨b4, 0, none⟩))))], [⟨b4, true, .box (p.cs.take 3)⟩, ⟨g, true, .box [encT t2]⟩]⟩) ⟨rfl, (Slots.cons h0 (.refl _) (Slots.cons h2 (.refl _) (Slots.cons h4 (.refl _) Slots.nil))), (List.Sublist.refl _)⟩ ?_
      refine awp_seq ?_
      refine awp_region ?_
      refine r_assign rfl rfl ?_
      refine awl_nil ?_
      refine x_then ?_
      refine awp_ret ?_
      exact ⟨(.inl rfl), _, [⟨g, true, .box [encT t2]⟩], (.one (by first | exact .mk rfl rfl | exact .nil rfl)), ⟨rfl, t2, rfl, hI.put hp hpx⟩, (by first | exact List.Sublist.refl _ | exact .cons_cons _ (.cons _ (.refl _)) | exact List.nil_sublist _ | exact .cons _ (.refl _) | exact .cons _ (.cons _ (.refl _)) | exact .cons _ (.cons _ (.cons _ (.refl _))) | exact .cons _ (.cons _ (.cons _ (.cons _ (.refl _)))) | exact .cons_cons _ (List.nil_sublist _)), (by simp)⟩)
  ·
   refine g_skip rfl rfl hg22 rfl ?_
   refine g_skip rfl rfl hg22 rfl ?_
   refine g_skip rfl rfl hg22 rfl ?_
   refine r_pickF rfl hg22 rfl rfl ?_
   refine awl_nil ?_
   refine x_then ?_
   refine awp_condF rfl ?_
   refine awp_skip ?_
   refine x_then ?_
   refine awp_seq ?_
   refine awp_any (fun B S => ∃ t2 : TreeV, ∃ sl : List (Nat × SV), S = ⟨39, sl, [⟨b4, true, .box (p.cs.take 3)⟩, ⟨g, true, .box [encT (cond (B 12) t2 t)]⟩]⟩ ∧ find 0 sl = some (.a (.v (.pointer (some ⟨g, 0, none⟩)))) ∧ find 2 sl = some (.a (.v (.int .u64 p.nu))) ∧ find 4 sl = some (.a (.v (.pointer (some ⟨b4, 0, none⟩)))) ∧ (B 0 = true → find 27 sl = some (.a (.v (.pointer (some ⟨g, 0, none⟩))))) ∧ (B 1 = true → find 28 sl = some (.a (.v (.pointer (some ⟨g, 0, none⟩))))) ∧ (B 2 = true → find 29 sl = some (.a (.v (.pointer (some ⟨g, 0, none⟩))))) ∧ (B 3 = true → find 30 sl = some (.a (.v (.pointer (some ⟨g, 0 + 0, none⟩))))) ∧ (B 4 = true → find 31 sl = some (.a (encT t))) ∧ (B 5 = true → find 32 sl = some (.a (.agg (p.cs.take 3)))) ∧ (B 6 = true → find 33 sl = some (.a (.v (.int .u64 p.nu)))) ∧ (B 7 = true → find 34 sl = some (.a (spA p))) ∧ (B 8 = true → find 35 sl = some (.a (.v (.int .u64 p.nu)))) ∧ (B 9 = true → find 36 sl = some (.a (encT t2))) ∧ (B 10 = true → find 37 sl = some (.a (.v (.pointer (some ⟨g, 0, none⟩))))) ∧ (B 11 = true → find 38 sl = some (.a (.v (.pointer (some ⟨g, 0 + 0, none⟩))))) ∧ (B 9 = true → PutT t p p.nu t2)) TV.mixed rfl ⟨none, _, rfl, rfl, rfl, rfl, (fun h => by cases h), (fun h => by cases h), (fun h => by cases h), (fun h => by cases h), (fun h => by cases h), (fun h => by cases h), (fun h => by cases h), (fun h => by cases h), (fun h => by cases h), (fun h => by cases h), (fun h => by cases h), (fun h => by cases h), (fun h => by cases h)⟩ ⟨⟨⟨⟨⟨⟨⟨⟨⟨⟨⟨⟨⟨trivial
    , ⟨_, rfl, fun B S hBi hdep hcl => by
      rintro ⟨t2, sl, rfl, h0, h2, h4, f0, f1, f2, f3, f4, f5, f6, f7, f8, f9, f10, f11, p9⟩
      refine r_move h0 rfl ?_
      exact awl_nil ⟨rfl, t2, _, rfl, h0, h2, h4, (fun h => rfl), f1, f2, f3, f4, f5, f6, f7, f8, f9, f10, f11, p9⟩⟩⟩
    , ⟨_, rfl, fun B S hBi hdep hcl => by
      rintro ⟨t2, sl, rfl, h0, h2, h4, f0, f1, f2, f3, f4, f5, f6, f7, f8, f9, f10, f11, p9⟩
      refine r_move h0 rfl ?_
      exact awl_nil ⟨rfl, t2, _, rfl, h0, h2, h4, f0, (fun h => rfl), f2, f3, f4, f5, f6, f7, f8, f9, f10, f11, p9⟩⟩⟩
    , ⟨_, rfl, fun B S hBi hdep hcl => by
      rintro ⟨t2, sl, rfl, h0, h2, h4, f0, f1, f2, f3, f4, f5, f6, f7, f8, f9, f10, f11, p9⟩
      refine r_nilCheck (f1 (hdep 1 rfl)) (by first | exact .pt _ _ | exact .v _ | exact .cp _) rfl ?_
      exact awl_nil ⟨rfl, t2, _, rfl, h0, h2, h4, f0, f1, (fun h => rfl), f3, f4, f5, f6, f7, f8, f9, f10, f11, p9⟩⟩⟩
    , ⟨_, rfl, fun B S hBi hdep hcl => by
      rintro ⟨t2, sl, rfl, h0, h2, h4, f0, f1, f2, f3, f4, f5, f6, f7, f8, f9, f10, f11, p9⟩
      first | (refine r_fieldpt (f2 (hdep 2 rfl)) TV.f78_0 TV.sz29 rfl ?_) | (refine r_fieldcp (f2 (hdep 2 rfl)) TV.f78_0 TV.sz29 rfl ?_) | (refine r_fieldb (f2 (hdep 2 rfl)) TV.f78_0 TV.sz29 rfl ?_)
      exact awl_nil ⟨rfl, t2, _, rfl, h0, h2, h4, f0, f1, f2, (fun h => rfl), f4, f5, f6, f7, f8, f9, f10, f11, p9⟩⟩⟩
    , ⟨_, rfl, fun B S hBi hdep hcl => by
      rintro ⟨t2, sl, rfl, h0, h2, h4, f0, f1, f2, f3, f4, f5, f6, f7, f8, f9, f10, f11, p9⟩
      have e12 : B 12 = false := by cases h : B 12 with | false => rfl | true => exact absurd (hcl 12 4 h rfl) (by rw [hBi]; decide)
      rw [e12]
      first | (refine r_load1b 0 (f3 (hdep 3 rfl)) rfl rfl TV.agg29 rfl ?_) | (refine r_load1 (f3 (hdep 3 rfl)) TV.agg29 rfl ?_) | (refine r_load1b 1 (f3 (hdep 3 rfl)) rfl rfl TV.agg29 rfl ?_)
      exact awl_nil ⟨rfl, t2, ((31, .a (encT t)) :: sl), (by show _ = (⟨39, _, [⟨b4, true, .box (p.cs.take 3)⟩, ⟨g, true, .box [encT (cond (B 12) t2 t)]⟩]⟩ : AState); rw [e12]; rfl), h0, h2, h4, f0, f1, f2, f3, (fun h => rfl), f5, f6, f7, f8, f9, f10, f11, p9⟩⟩⟩
    , ⟨_, rfl, fun B S hBi hdep hcl => by
      rintro ⟨t2, sl, rfl, h0, h2, h4, f0, f1, f2, f3, f4, f5, f6, f7, f8, f9, f10, f11, p9⟩
      first | (refine r_loadAb 0 h4 rfl TV.agg47 TV.sz47 rfl rfl ?_) | (refine r_loadA h4 TV.agg47 TV.sz47 rfl rfl ?_) | (refine r_loadAb 1 h4 rfl TV.agg47 TV.sz47 rfl rfl ?_)
      exact awl_nil ⟨rfl, t2, _, rfl, h0, h2, h4, f0, f1, f2, f3, f4, (fun h => rfl), f6, f7, f8, f9, f10, f11, p9⟩⟩⟩
    , ⟨_, rfl, fun B S hBi hdep hcl => by
      rintro ⟨t2, sl, rfl, h0, h2, h4, f0, f1, f2, f3, f4, f5, f6, f7, f8, f9, f10, f11, p9⟩
      refine r_move h2 rfl ?_
      exact awl_nil ⟨rfl, t2, _, rfl, h0, h2, h4, f0, f1, f2, f3, f4, f5, (fun h => rfl), f7, f8, f9, f10, f11, p9⟩⟩⟩
    , ⟨_, rfl, fun B S hBi hdep hcl => by
      rintro ⟨t2, sl, rfl, h0, h2, h4, f0, f1, f2, f3, f4, f5, f6, f7, f8, f9, f10, f11, p9⟩
      refine r_build (parts := [(0, .tmp 32), (1, .tmp 33)]) rfl TV.pl73 TV.zero73 (parts_cons (f5 (hdep 5 rfl)) (parts_cons (f6 (hdep 6 rfl)) parts_nil)) rfl rfl ?_
      exact awl_nil ⟨rfl, t2, _, rfl, h0, h2, h4, f0, f1, f2, f3, f4, f5, f6, (fun h => rfl), f8, f9, f10, f11, p9⟩⟩⟩
    , ⟨_, rfl, fun B S hBi hdep hcl => by
      rintro ⟨t2, sl, rfl, h0, h2, h4, f0, f1, f2, f3, f4, f5, f6, f7, f8, f9, f10, f11, p9⟩
      refine r_move h2 rfl ?_
      exact awl_nil ⟨rfl, t2, _, rfl, h0, h2, h4, f0, f1, f2, f3, f4, f5, f6, f7, (fun h => rfl), f9, f10, f11, p9⟩⟩⟩
    , ⟨_, rfl, fun B S hBi hdep hcl => by
      rintro ⟨t2, sl, rfl, h0, h2, h4, f0, f1, f2, f3, f4, f5, f6, f7, f8, f9, f10, f11, p9⟩
      have e12 : B 12 = false := by cases h : B 12 with | false => rfl | true => exact absurd (hcl 12 9 h rfl) (by rw [hBi]; decide)
      rw [e12]
      refine r_call0 hq rfl rfl (.cons (.ev (f4 (hdep 4 rfl)) rfl) (.cons (.ev (f7 (hdep 7 rfl)) rfl) (.cons (.ev (f8 (hdep 8 rfl)) rfl) .nil))) (TPut_ok t hI.good.wf htn p p.nu) rfl TV.en26 rfl (fun r hr => ?_)
      obtain ⟨t2, htq, rfl⟩ := hr
      exact awl_nil ⟨rfl, t2, ((36, .a (encT t2)) :: sl), (by show _ = (⟨39, _, [⟨b4, true, .box (p.cs.take 3)⟩, ⟨g, true, .box [encT (cond (B 12) t2 t)]⟩]⟩ : AState); rw [e12]; rfl), h0, h2, h4, f0, f1, f2, f3, f4, f5, f6, f7, f8, (fun h => rfl), f10, f11, (fun _ => htq)⟩⟩⟩
    , ⟨_, rfl, fun B S hBi hdep hcl => by
      rintro ⟨t2, sl, rfl, h0, h2, h4, f0, f1, f2, f3, f4, f5, f6, f7, f8, f9, f10, f11, p9⟩
      refine r_nilCheck (f0 (hdep 0 rfl)) (by first | exact .pt _ _ | exact .v _ | exact .cp _) rfl ?_
      exact awl_nil ⟨rfl, t2, _, rfl, h0, h2, h4, f0, f1, f2, f3, f4, f5, f6, f7, f8, f9, (fun h => rfl), f11, p9⟩⟩⟩
    , ⟨_, rfl, fun B S hBi hdep hcl => by
      rintro ⟨t2, sl, rfl, h0, h2, h4, f0, f1, f2, f3, f4, f5, f6, f7, f8, f9, f10, f11, p9⟩
      first | (refine r_fieldpt (f10 (hdep 10 rfl)) TV.f78_0 TV.sz29 rfl ?_) | (refine r_fieldcp (f10 (hdep 10 rfl)) TV.f78_0 TV.sz29 rfl ?_) | (refine r_fieldb (f10 (hdep 10 rfl)) TV.f78_0 TV.sz29 rfl ?_)
      exact awl_nil ⟨rfl, t2, _, rfl, h0, h2, h4, f0, f1, f2, f3, f4, f5, f6, f7, f8, f9, f10, (fun h => rfl), p9⟩⟩⟩
    , ⟨_, rfl, fun B S hBi hdep hcl => by
      rintro ⟨t2, sl, rfl, h0, h2, h4, f0, f1, f2, f3, f4, f5, f6, f7, f8, f9, f10, f11, p9⟩
      rw [hBi]
      first | (refine r_storeT 0 (f11 (hdep 11 rfl)) rfl (f9 (hdep 9 rfl)) TV.sz29 ?_) | (refine r_storeT 1 (f11 (hdep 11 rfl)) rfl (f9 (hdep 9 rfl)) TV.sz29 ?_)
      exact awl_nil ⟨rfl, t2, sl, (by show _ = (⟨39, _, [⟨b4, true, .box (p.cs.take 3)⟩, ⟨g, true, .box [encT (cond true t2 t)]⟩]⟩ : AState); rfl), h0, h2, h4, f0, f1, f2, f3, f4, f5, f6, f7, f8, f9, f10, f11, p9⟩⟩⟩
    (fun B S hall => by
     rintro ⟨t2, sl, rfl, h0, h2, h4, f0, f1, f2, f3, f4, f5, f6, f7, f8, f9, f10, f11, p9⟩
     rw [hall 12 (by decide)]
     have hpx := p9 (hall 9 (by decide))
     refine x_then ?_
     refine awp_weaken (S' := ⟨39, [(0, .a (.v (.pointer (some ⟨g, 0, none⟩)))), (2, .a (.v (.int .u64 p.nu))), (4, .a (.v (.pointer (some ⟨b4, 0, none⟩))))], [⟨b4, true, .box (p.cs.take 3)⟩, ⟨g, true, .box [encT t2]⟩]⟩) ⟨rfl, (Slots.cons h0 (.refl _) (Slots.cons h2 (.refl _) (Slots.cons h4 (.refl _) Slots.nil))), (List.Sublist.refl _)⟩ ?_
     refine awp_seq ?_
     refine awp_region ?_
     refine r_assign rfl rfl ?_
     refine awl_nil ?_
     refine x_then ?_
     refine awp_ret ?_
     exact ⟨(.inl rfl), _, [⟨g, true, .box [encT t2]⟩], (.one (by first | exact .mk rfl rfl | exact .nil rfl)), ⟨rfl, t2, rfl, hI.put hp hpx⟩, (by first | exact List.Sublist.refl _ | exact .cons_cons _ (.cons _ (.refl _)) | exact List.nil_sublist _ | exact .cons _ (.refl _) | exact .cons _ (.cons _ (.refl _)) | exact .cons _ (.cons _ (.cons _ (.refl _))) | exact .cons _ (.cons _ (.cons _ (.cons _ (.refl _)))) | exact .cons_cons _ (List.nil_sublist _)), (by simp)⟩)
end Go.Proofs.Ytpkodkoooaldlaa.A
namespace Go.Proofs.Ytpkodkoooaldlaa.A
open Go Go.RowKit
set_option linter.unusedVariables false
set_option linter.unusedSimpArgs false
set_option maxRecDepth 100000
theorem TV.pl84 : placesT Try.prog 84 = some [(0, 64)] := by kernel_rfl
theorem TV.zero84 : ZeroT Try.prog 84 [.v (.bool false), .v (.int .i64 0), .v (.int .u64 0), .v (.int .u64 0), .v (.bool false), .v (.int .i64 0), .v (.int .u64 0), .v (.int .u64 0), .v (.bool false), .v (.int .i64 0), .v (.int .u64 0), .v (.int .u64 0), .v (.bool false), .v (.int .i64 0), .v (.int .u64 0), .v (.int .u64 0), .v (.bool false), .v (.int .i64 0), .v (.int .u64 0), .v (.int .u64 0), .v (.bool false), .v (.int .i64 0), .v (.int .u64 0), .v (.int .u64 0), .v (.bool false), .v (.int .i64 0), .v (.int .u64 0), .v (.int .u64 0), .v (.bool false), .v (.int .i64 0), .v (.int .u64 0), .v (.int .u64 0), .v (.bool false), .v (.int .i64 0), .v (.int .u64 0), .v (.int .u64 0), .v (.bool false), .v (.int .i64 0), .v (.int .u64 0), .v (.int .u64 0), .v (.bool false), .v (.int .i64 0), .v (.int .u64 0), .v (.int .u64 0), .v (.bool false), .v (.int .i64 0), .v (.int .u64 0), .v (.int .u64 0), .v (.bool false), .v (.int .i64 0), .v (.int .u64 0), .v (.int .u64 0), .v (.bool false), .v (.int .i64 0), .v (.int .u64 0), .v (.int .u64 0), .v (.bool false), .v (.int .i64 0), .v (.int .u64 0), .v (.int .u64 0), .v (.bool false), .v (.int .i64 0), .v (.int .u64 0), .v (.int .u64 0)] := ⟨[(.bool false), (.int .i64 0), (.int .u64 0), (.int .u64 0), (.bool false), (.int .i64 0), (.int .u64 0), (.int .u64 0), (.bool false), (.int .i64 0), (.int .u64 0), (.int .u64 0), (.bool false), (.int .i64 0), (.int .u64 0), (.int .u64 0), (.bool false), (.int .i64 0), (.int .u64 0), (.int .u64 0), (.bool false), (.int .i64 0), (.int .u64 0), (.int .u64 0), (.bool false), (.int .i64 0), (.int .u64 0), (.int .u64 0), (.bool false), (.int .i64 0), (.int .u64 0), (.int .u64 0), (.bool false), (.int .i64 0), (.int .u64 0), (.int .u64 0), (.bool false), (.int .i64 0), (.int .u64 0), (.int .u64 0), (.bool false), (.int .i64 0), (.int .u64 0), (.int .u64 0), (.bool false), (.int .i64 0), (.int .u64 0), (.int .u64 0), (.bool false), (.int .i64 0), (.int .u64 0), (.int .u64 0), (.bool false), (.int .i64 0), (.int .u64 0), (.int .u64 0), (.bool false), (.int .i64 0), (.int .u64 0), (.int .u64 0), (.bool false), (.int .i64 0), (.int .u64 0), (.int .u64 0)], by kernel_rfl, (LeCells.refl _)⟩
theorem TV.un26 : Try.prog.underlying 26 = some (.pointer 84) := by kernel_rfl
theorem TV.f84_0 : fieldT Try.prog 84 0 = some (0, 82) := by kernel_rfl
theorem TV.sz82 : szT Try.prog 82 = some 64 := by kernel_rfl
theorem TV.un82 : Try.prog.underlying 82 = some (.array 16 81) := by kernel_rfl
theorem TV.sz81 : szT Try.prog 81 = some 4 := by kernel_rfl
theorem TV.f81_0 : fieldT Try.prog 81 0 = some (0, 4) := by kernel_rfl
theorem TV.sz4 : szT Try.prog 4 = some 1 := by kernel_rfl
theorem TV.agg4 : aggT Try.prog 4 = some false := by kernel_rfl
theorem TV.en27 : entersT Try.prog 27 := enters_of Try.func27 (by kernel_rfl) (by kernel_rfl)
theorem TV.f81_3 : fieldT Try.prog 81 3 = some (3, 31) := by kernel_rfl
theorem TV.pl81 : placesT Try.prog 81 = some [(0, 1), (1, 1), (2, 1), (3, 1)] := by kernel_rfl
theorem TV.zero81 : ZeroT Try.prog 81 [.v (.bool false), .v (.int .i64 0), .v (.int .u64 0), .v (.int .u64 0)] := ⟨[(.bool false), (.int .i64 0), (.int .u64 0), (.int .u64 0)], by kernel_rfl, (LeCells.refl _)⟩
theorem TV.en35 : entersT Try.prog 35 := enters_of Try.func35 (by kernel_rfl) (by kernel_rfl)
theorem TV.pl71 : placesT Try.prog 71 = some [(0, 1), (1, 1), (2, 1)] := by kernel_rfl
theorem TV.zero71 : ZeroT Try.prog 71 [.v (.int .i64 0), .v (.int .u64 0), .v (.int .u64 0)] := ⟨[(.int .i64 0), (.int .u64 0), (.int .u64 0)], by kernel_rfl, (LeCells.refl _)⟩
theorem TV.sl30 : sliceT Try.prog 30 = some 71 := by kernel_rfl
theorem TV.sz71 : szT Try.prog 71 = some 3 := by kernel_rfl
theorem TV.zraw71 : zeroT Try.prog 71 = some [(.int .i64 0), (.int .u64 0), (.int .u64 0)] := by kernel_rfl
theorem TV.agg81 : aggT Try.prog 81 = some true := by kernel_rfl
theorem TV.f81_1 : fieldT Try.prog 81 1 = some (1, 3) := by kernel_rfl
theorem TV.sz3 : szT Try.prog 3 = some 1 := by kernel_rfl
theorem TV.agg3 : aggT Try.prog 3 = some false := by kernel_rfl
theorem TV.f81_2 : fieldT Try.prog 81 2 = some (2, 31) := by kernel_rfl
theorem TV.by71 : bytesT Try.prog 71 = some 24 := by kernel_rfl
theorem TV.zlen71 : (zeroT Try.prog 71).map (·.length) = some 3 := by kernel_rfl
theorem foNew_ok : AC Try.prog 20 [] [] (fun r n => ∃ gf, r = .v (.pointer (some ⟨gf, 0, none⟩)) ∧ n = [⟨gf, true, .box (twsA newF)⟩]) := by
 refine ac_of_awp (rs := [0]) (nt := 3) Try.func20 rfl rfl rfl rfl (fun w0 C0 hq => ?_)
 refine awp_seq ?_
 refine awp_region ?_
 refine r_assign rfl rfl ?_
 refine awl_nil ?_
 refine x_then ?_
 refine awp_seq ?_
 refine awp_region ?_
 refine r_build (parts := []) rfl TV.pl84 TV.zero84 rfl rfl rfl ?_
 refine r_box rfl rfl rfl (fun b2 => ?_)
 refine r_assign rfl rfl ?_
 refine awl_nil ?_
 refine x_then ?_
 refine awp_ret ?_
 exact ⟨(.inl rfl), _, [⟨b2, true, .box (twsA newF)⟩], (.one (by first | exact .mk rfl rfl | exact .nil rfl)), ⟨b2, rfl, rfl⟩, (List.Sublist.refl _), (by simp)⟩
theorem alive_ok (F : List Tw) (hF : Fo F) (i : Nat) (hi : i < 16) (gf : Nat) (f : Bool) : AC Try.prog 27 [.v (.pointer (some ⟨gf, 0, none⟩)), .v (.int .i64 (i : Int))] [⟨gf, f, .box (twsA F)⟩] (fun r n => n = [] ∧ r = boolA (aliveF F i)) := by
 refine ac_of_awp (rs := [4]) (nt := 26) Try.func27 rfl rfl rfl rfl (fun w0 C0 hq => ?_)
 obtain ⟨w, hw⟩ : ∃ w, F[i]? = some w := get_lt (by rw [hF.len]; exact hi)
 refine awp_seq ?_
 refine awp_region ?_
 refine r_assign rfl rfl ?_
 refine awl_nil ?_
 refine x_then ?_
 refine awp_seq ?_
 refine awp_seq ?_
 refine awp_region ?_
 refine r_move rfl rfl ?_
 refine r_pnil rfl (by first | exact .pt _ _ | exact .nil | exact .v _ | exact .cp _) TV.un26 rfl ?_
 refine r_move rfl rfl ?_
 refine g_run rfl rfl rfl ?_
 refine r_move rfl rfl ?_
 refine g_run rfl rfl rfl ?_
 refine r_cmp rfl rfl rfl rfl ?_
 refine r_pickF rfl rfl rfl rfl ?_
 refine r_move rfl rfl ?_
 refine g_run rfl rfl (decide_eq_false (by omega)) ?_
 refine r_move rfl rfl ?_
 refine g_run rfl rfl (decide_eq_false (by omega)) ?_
 refine r_cmp rfl rfl rfl rfl ?_
 refine r_pickF rfl (decide_eq_false (by omega)) rfl rfl ?_
 refine awl_nil ?_
 refine x_then ?_
 refine awp_cond rfl (fun hc0 => ?_) (fun hc0 => ?_)
 ·
  exfalso; have := of_decide_eq_true hc0; omega
 ·
  refine awp_skip ?_
  refine x_then ?_
  refine awp_seq ?_
  refine awp_region ?_
  refine r_move rfl rfl ?_
  refine r_cmp rfl rfl rfl rfl ?_
  refine r_move rfl rfl ?_
  refine g_cases (t' := 17) rfl (fun hg17 => ?_) (fun hg17 => ?_)
  ·
   have h0 : i = 0 := by simpa using hg17
   have hal : aliveF F i = true := by unfold aliveF; simp [h0]
   refine g_skip rfl rfl hg17 rfl ?_
   refine g_skip rfl rfl hg17 rfl ?_
   refine g_skip rfl rfl hg17 rfl ?_
   refine g_skip rfl rfl hg17 rfl ?_
   refine g_skip rfl rfl hg17 rfl ?_
   refine g_skip rfl rfl hg17 rfl ?_
   refine g_skip rfl rfl hg17 rfl ?_
   refine r_pickT rfl hg17 rfl rfl ?_
   refine r_assign rfl rfl ?_
   refine awl_nil ?_
   refine x_then ?_
   refine awp_ret ?_
   exact ⟨(.inl rfl), _, [], (.one (by first | exact .mk rfl rfl | exact .nil rfl)), ⟨rfl, by rw [hal]; rfl⟩, (List.nil_sublist _), (by simp)⟩
  ·
   have h0 : i ≠ 0 := by simpa using hg17
   have hal : aliveF F i = w.alive := by unfold aliveF; rw [hw]; simp [h0]
   refine g_run rfl rfl hg17 ?_
   refine r_move rfl rfl ?_
   refine g_run rfl rfl hg17 ?_
   refine r_move rfl rfl ?_
   refine g_run rfl rfl hg17 ?_
   refine r_nilCheck rfl (by first | exact .pt _ _ | exact .v _ | exact .cp _) rfl ?_
   refine g_run rfl rfl hg17 ?_
   first | (refine r_fieldpt rfl TV.f84_0 TV.sz82 rfl ?_) | (refine r_fieldcp rfl TV.f84_0 TV.sz82 rfl ?_) | (refine r_fieldb rfl TV.f84_0 TV.sz82 rfl ?_)
   refine g_run rfl rfl hg17 ?_
   refine r_indexArrB rfl rfl TV.un82 TV.sz81 (by omega) (by omega) rfl ?_
   refine g_run rfl rfl hg17 ?_
   first | (refine r_fieldpt rfl TV.f81_0 TV.sz4 rfl ?_) | (refine r_fieldcp rfl TV.f81_0 TV.sz4 rfl ?_) | (refine r_fieldb rfl TV.f81_0 TV.sz4 rfl ?_)
   refine g_run rfl rfl hg17 ?_
   refine r_load1b 0 rfl rfl (tw_at hw (k := 0) rfl) TV.agg4 rfl ?_
   refine r_pickF rfl hg17 rfl rfl ?_
   refine r_assign rfl rfl ?_
   refine awl_nil ?_
   refine x_then ?_
   refine awp_ret ?_
   exact ⟨(.inl rfl), _, [], (.one (by first | exact .mk rfl rfl | exact .nil rfl)), ⟨rfl, by rw [hal]; rfl⟩, (List.nil_sublist _), (by simp)⟩
theorem foNum_ok (F : List Tw) (hF : Fo F) (i : Nat) (hi : i < 16) (gf : Nat) (f : Bool) : AC Try.prog 35 [.v (.pointer (some ⟨gf, 0, none⟩)), .v (.int .i64 (i : Int))] [⟨gf, f, .box (twsA F)⟩] (fun r n => n = [] ∧ r = .tup [.v (.int .u64 (numF F i)), boolA (aliveF F i)]) := by
 refine ac_of_awp (rs := [4, 5]) (nt := 17) Try.func35 rfl rfl rfl rfl (fun w0 C0 hq => ?_)
 obtain ⟨w, hw⟩ : ∃ w, F[i]? = some w := get_lt (by rw [hF.len]; exact hi)
 refine awp_seq ?_
 refine awp_region ?_
 refine r_assign rfl rfl ?_
 refine r_assign rfl rfl ?_
 refine awl_nil ?_
 refine x_then ?_
 refine awp_seq ?_
 refine awp_seq ?_
 refine awp_region ?_
 refine r_move rfl rfl ?_
 refine r_move rfl rfl ?_
 refine r_callO hq rfl rfl (.cons (.ev rfl rfl) (.cons (.ev rfl rfl) .nil)) (alive_ok F hF i hi gf false) rfl TV.en27 (List.Sublist.refl _) rfl (fun r nobjs hr => ?_)
 obtain ⟨rfl, rfl⟩ := hr
 refine r_not rfl rfl ?_
 refine awl_nil ?_
 refine x_then ?_
 refine awp_cond rfl (fun hc0 => ?_) (fun hc0 => ?_)
 ·
  have hal : aliveF F i = false := by have := hc0; simpa [boolA] using this
  have hnm : numF F i = 0 := by unfold numF; rw [hal]; rfl
  refine awp_seq ?_
  refine awp_region ?_
  refine r_assign rfl rfl ?_
  refine r_assign rfl rfl ?_
  refine awl_nil ?_
  refine x_then ?_
  refine awp_ret ?_
  refine x_thenR ?_
  exact ⟨(.inl rfl), _, [], (.two (by first | exact .mk rfl rfl | exact .nil rfl) (by first | exact .mk rfl rfl | exact .nil rfl)), ⟨rfl, by rw [hal, hnm]; rfl⟩, (List.nil_sublist _), (by simp)⟩
 ·
  have hal : aliveF F i = true := by have := hc0; simpa [boolA] using this
  have hnm : numF F i = w.num := by unfold numF; rw [hal, if_pos rfl, hw]; rfl
  refine awp_skip ?_
  refine x_then ?_
  refine awp_seq ?_
  refine awp_region ?_
  refine r_move rfl rfl ?_
  refine r_move rfl rfl ?_
  refine r_nilCheck rfl (by first | exact .pt _ _ | exact .v _ | exact .cp _) rfl ?_
  first | (refine r_fieldpt rfl TV.f84_0 TV.sz82 rfl ?_) | (refine r_fieldcp rfl TV.f84_0 TV.sz82 rfl ?_) | (refine r_fieldb rfl TV.f84_0 TV.sz82 rfl ?_)
  refine r_indexArrB rfl rfl TV.un82 TV.sz81 (by omega) (by omega) rfl ?_
  first | (refine r_fieldpt rfl TV.f81_3 TV.sz31 rfl ?_) | (refine r_fieldcp rfl TV.f81_3 TV.sz31 rfl ?_) | (refine r_fieldb rfl TV.f81_3 TV.sz31 rfl ?_)
  refine r_load1b 0 rfl rfl (tw_at hw (k := 3) rfl) TV.agg31 rfl ?_
  refine r_assign rfl rfl ?_
  refine r_assign rfl rfl ?_
  refine awl_nil ?_
  refine x_then ?_
  refine awp_ret ?_
  exact ⟨(.inl rfl), _, [], (.two (by first | exact .mk rfl rfl | exact .nil rfl) (by first | exact .mk rfl rfl | exact .nil rfl)), ⟨rfl, by rw [hal, hnm]; rfl⟩, (List.nil_sublist _), (by simp)⟩
theorem fork_ok (F : List Tw) (hF : Fo F) (i j : Nat) (hi1 : 1 ≤ i) (hi : i < 16) (hj : j ≤ i) (base num : Int) (gf : Nat) : AW Try.prog 13 [.v (.pointer (some ⟨gf, 0, none⟩)), .v (.int .i64 (i : Int)), .v (.int .i64 (j : Int)), .v (.int .u64 (base)), .v (.int .u64 (num))] [] [⟨gf, true, .box (twsA F)⟩] (fun r n => r = .v (.int .i64 (forkF F i j base num).1) ∧ n = [⟨gf, true, .box (twsA (forkF F i j base num).2)⟩]) := by
 refine aw_of_awp (rs := [10]) (nt := 58) (so := [⟨gf, true, .box (twsA F)⟩]) Try.func13 rfl rfl rfl rfl rfl (fun w0 C0 hq => ?_)
 obtain ⟨w, hw⟩ : ∃ w, F[i]? = some w := get_lt (by rw [hF.len]; exact hi)
 obtain ⟨v, hv⟩ : ∃ v, F[j]? = some v := get_lt (by rw [hF.len]; omega)
 have hfk : (forkF F i j base num) = if w.alive then (5, F) else if aliveF F j = false then (4, F) else if base < v.num ∨ num ≤ base then (15, F) else (0, F.set i ⟨true, (j : Int), base, num⟩) := by unfold forkF; rw [hw, hv]; rfl
 refine awp_seq ?_
 refine awp_region ?_
 refine r_assign rfl rfl ?_
 refine awl_nil ?_
 refine x_then ?_
 refine awp_seq ?_
 refine awp_block ?_
 refine awp_seq ?_
 refine awp_region ?_
 refine r_move rfl rfl ?_
 refine r_pnil rfl (by first | exact .pt _ _ | exact .nil | exact .v _ | exact .cp _) TV.un26 rfl ?_
 refine r_assign rfl rfl ?_
 refine awl_nil ?_
 refine x_then ?_
 refine awp_cond rfl (fun hc0 => ?_) (fun hc0 => ?_)
 ·
  exfalso; cases hc0
 ·
  refine awp_seq ?_
  refine awp_region ?_
  refine r_move rfl rfl ?_
  refine r_cmp rfl rfl rfl rfl ?_
  refine r_move rfl rfl ?_
  refine g_run rfl rfl (decide_eq_false (by omega)) ?_
  refine r_move rfl rfl ?_
  refine g_run rfl rfl (decide_eq_false (by omega)) ?_
  refine r_cmp rfl rfl rfl rfl ?_
  refine r_pickF rfl (decide_eq_false (by omega)) rfl rfl ?_
  refine r_assign rfl rfl ?_
  refine awl_nil ?_
  refine x_then ?_
  refine awp_cond rfl (fun hc1 => ?_) (fun hc1 => ?_)
  ·
   exfalso; have := of_decide_eq_true hc1; omega
  ·
   refine awp_seq ?_
   refine awp_region ?_
   refine r_move rfl rfl ?_
   refine r_move rfl rfl ?_
   refine r_nilCheck rfl (by first | exact .pt _ _ | exact .v _ | exact .cp _) rfl ?_
   first | (refine r_fieldpt rfl TV.f84_0 TV.sz82 rfl ?_) | (refine r_fieldcp rfl TV.f84_0 TV.sz82 rfl ?_) | (refine r_fieldb rfl TV.f84_0 TV.sz82 rfl ?_)
   refine r_indexArrB rfl rfl TV.un82 TV.sz81 (by omega) (by omega) rfl ?_
   first | (refine r_fieldpt rfl TV.f81_0 TV.sz4 rfl ?_) | (refine r_fieldcp rfl TV.f81_0 TV.sz4 rfl ?_) | (refine r_fieldb rfl TV.f81_0 TV.sz4 rfl ?_)
   refine r_load1b 0 rfl rfl (tw_at hw (k := 0) rfl) TV.agg4 rfl ?_
   refine r_assign rfl rfl ?_
   refine awl_nil ?_
   refine x_then ?_
   refine awp_cond rfl (fun hc2 => ?_) (fun hc2 => ?_)
   ·
    have h2 : w.alive = true := hc2
    rw [if_pos h2] at hfk
    refine awp_seq ?_
    refine awp_region ?_
    refine r_assign rfl rfl ?_
    refine awl_nil ?_
    refine x_then ?_
    refine awp_ret ?_
    refine x_blockR ?_
    refine x_thenR ?_
    exact ⟨(.inl rfl), _, [⟨gf, true, .box (twsA F)⟩], (.one (by first | exact .mk rfl rfl | exact .nil rfl)), ⟨by rw [hfk]; rfl, by rw [hfk]⟩, (List.Sublist.refl _), (by simp)⟩
   ·
    have h2 : w.alive = false := hc2
    rw [if_neg (by rw [h2]; decide)] at hfk
    refine awp_seq ?_
    refine awp_region ?_
    refine r_move rfl rfl ?_
    refine r_move rfl rfl ?_
    refine r_callO hq rfl rfl (.cons (.ev rfl rfl) (.cons (.ev rfl rfl) .nil)) (alive_ok F hF j (by omega) gf true) rfl TV.en27 (List.Sublist.refl _) rfl (fun r nobjs hr => ?_)
    obtain ⟨rfl, rfl⟩ := hr
    refine r_not rfl rfl ?_
    refine r_assign rfl rfl ?_
    refine awl_nil ?_
    refine x_then ?_
    refine awp_cond rfl (fun hc3 => ?_) (fun hc3 => ?_)
    ·
     have h3 : aliveF F j = false := by have := hc3; simpa [boolA] using this
     rw [if_pos h3] at hfk
     refine awp_seq ?_
     refine awp_region ?_
     refine r_assign rfl rfl ?_
     refine awl_nil ?_
     refine x_then ?_
     refine awp_ret ?_
     refine x_blockR ?_
     refine x_thenR ?_
     exact ⟨(.inl rfl), _, [⟨gf, true, .box (twsA F)⟩], (.one (by first | exact .mk rfl rfl | exact .nil rfl)), ⟨by rw [hfk]; rfl, by rw [hfk]⟩, (List.Sublist.refl _), (by simp)⟩
    ·
     have h3 : aliveF F j = true := by have := hc3; simpa [boolA] using this
     rw [if_neg (by rw [h3]; decide)] at hfk
     refine awp_seq ?_
     refine awp_region ?_
     refine r_move rfl rfl ?_
     refine r_move rfl rfl ?_
     refine r_move rfl rfl ?_
     refine r_nilCheck rfl (by first | exact .pt _ _ | exact .v _ | exact .cp _) rfl ?_
     first | (refine r_fieldpt rfl TV.f84_0 TV.sz82 rfl ?_) | (refine r_fieldcp rfl TV.f84_0 TV.sz82 rfl ?_) | (refine r_fieldb rfl TV.f84_0 TV.sz82 rfl ?_)
     refine r_indexArrB rfl rfl TV.un82 TV.sz81 (by omega) (by omega) rfl ?_
     first | (refine r_fieldpt rfl TV.f81_3 TV.sz31 rfl ?_) | (refine r_fieldcp rfl TV.f81_3 TV.sz31 rfl ?_) | (refine r_fieldb rfl TV.f81_3 TV.sz31 rfl ?_)
     refine r_load1b 0 rfl rfl (tw_at hv (k := 3) rfl) TV.agg31 rfl ?_
     refine r_cmp rfl rfl rfl rfl ?_
     refine r_move rfl rfl ?_
     refine g_cases (t' := 44) rfl (fun hg44 => ?_) (fun hg44 => ?_)
     ·
      have h4 : base < v.num := of_decide_eq_true hg44
      rw [if_pos (.inl h4)] at hfk
      refine g_skip rfl rfl hg44 rfl ?_
      refine g_skip rfl rfl hg44 rfl ?_
      refine g_skip rfl rfl hg44 rfl ?_
      refine r_pickT rfl hg44 rfl rfl ?_
      refine r_assign rfl rfl ?_
      refine awl_nil ?_
      refine x_then ?_
      refine awp_condT rfl ?_
      refine awp_seq ?_
      refine awp_region ?_
      refine r_assign rfl rfl ?_
      refine awl_nil ?_
      refine x_then ?_
      refine awp_ret ?_
      refine x_blockR ?_
      refine x_thenR ?_
      exact ⟨(.inl rfl), _, [⟨gf, true, .box (twsA F)⟩], (.one (by first | exact .mk rfl rfl | exact .nil rfl)), ⟨by rw [hfk]; rfl, by rw [hfk]⟩, (List.Sublist.refl _), (by simp)⟩
     ·
      have h4 : ¬ base < v.num := of_decide_eq_false hg44
      refine g_run rfl rfl hg44 ?_
      refine r_move rfl rfl ?_
      refine g_run rfl rfl hg44 ?_
      refine r_move rfl rfl ?_
      refine g_run rfl rfl hg44 ?_
      refine r_cmp rfl rfl rfl rfl ?_
      refine r_pickF rfl hg44 rfl rfl ?_
      refine r_assign rfl rfl ?_
      refine awl_nil ?_
      refine x_then ?_
      refine awp_cond rfl (fun hc4 => ?_) (fun hc4 => ?_)
      ·
       first | (have h5 : num ≤ base := of_decide_eq_true hc4; rw [if_pos (.inr h5)] at hfk) | skip
       refine awp_seq ?_
       refine awp_region ?_
       refine r_assign rfl rfl ?_
       refine awl_nil ?_
       refine x_then ?_
       refine awp_ret ?_
       refine x_blockR ?_
       refine x_thenR ?_
       exact ⟨(.inl rfl), _, [⟨gf, true, .box (twsA F)⟩], (.one (by first | exact .mk rfl rfl | exact .nil rfl)), ⟨by rw [hfk]; rfl, by rw [hfk]⟩, (List.Sublist.refl _), (by simp)⟩
      ·
       have h5 : ¬ num ≤ base := of_decide_eq_false hc4
       rw [if_neg (by omega)] at hfk
       refine awp_skip ?_
       refine x_block ?_
       refine x_then ?_
       refine awp_seq ?_
       refine awp_region ?_
       refine r_move rfl rfl ?_
       refine r_move rfl rfl ?_
       refine r_move rfl rfl ?_
       refine r_move rfl rfl ?_
       refine r_move rfl rfl ?_
       refine r_build (parts := [(0, .const ((Go.Value.bool true))), (1, .tmp 51), (2, .tmp 52), (3, .tmp 53)]) rfl TV.pl81 TV.zero81 rfl rfl rfl ?_
       refine r_nilCheck rfl (by first | exact .pt _ _ | exact .v _ | exact .cp _) rfl ?_
       first | (refine r_fieldpt rfl TV.f84_0 TV.sz82 rfl ?_) | (refine r_fieldcp rfl TV.f84_0 TV.sz82 rfl ?_) | (refine r_fieldb rfl TV.f84_0 TV.sz82 rfl ?_)
       refine r_indexArrB rfl rfl TV.un82 TV.sz81 (by omega) (by omega) rfl ?_
       refine r_store 0 rfl rfl rfl TV.sz81 rfl (tw_flat hw).2 rfl ?_
       refine awl_nil ?_
       refine x_then ?_
       refine awp_seq ?_
       refine awp_region ?_
       refine r_assign rfl rfl ?_
       refine awl_nil ?_
       refine x_then ?_
       refine awp_ret ?_
       exact ⟨(.inl rfl), _, [⟨gf, true, .box ((twsA F).take (0 + 0 + ((i : Nat) : Int).toNat * 4) ++ Tw.cs ⟨true, (j : Int), base, num⟩ ++ (twsA F).drop (0 + 0 + ((i : Nat) : Int).toNat * 4 + 4))⟩], (.one (by first | exact .mk rfl rfl | exact .nil rfl)), ⟨by rw [hfk]; rfl, by rw [hfk, tw_set hw]⟩, (List.Sublist.refl _), (by simp)⟩
theorem line_ok (F : List Tw) (hF : Fo F) (i : Nat) (hi : i < 16) (m : Int) (gf : Nat) (f : Bool) : AC Try.prog 21 [.v (.pointer (some ⟨gf, 0, none⟩)), .v (.int .i64 (i : Int)), .v (.int .u64 (m))] [⟨gf, f, .box (twsA F)⟩] (fun r n => n = [] ∧ ((okL F i m = true ∧ r = .tup [.sl 3 ((lineF F i m).map St.cs), .v (.int .i64 0)]) ∨ (okL F i m = false ∧ r = .tup [.v (.slice none 0 0), .v (.int .i64 4)]))) := by
 refine ac_of_awp (rs := [6, 7]) (nt := 55) Try.func21 rfl rfl rfl rfl (fun w0 C0 hq => ?_)
 obtain ⟨w, hw⟩ : ∃ w, F[i]? = some w := get_lt (by rw [hF.len]; exact hi)
 refine awp_seq ?_
 refine awp_region ?_
 refine r_assign rfl rfl ?_
 refine r_assign rfl rfl ?_
 refine awl_nil ?_
 refine x_then ?_
 refine awp_seq ?_
 refine awp_region ?_
 refine r_move rfl rfl ?_
 refine r_move rfl rfl ?_
 refine r_callO hq rfl rfl (.cons (.ev rfl rfl) (.cons (.ev rfl rfl) .nil)) (foNum_ok F hF i hi gf false) rfl TV.en35 (List.Sublist.refl _) rfl (fun r nobjs hr => ?_)
 obtain ⟨rfl, rfl⟩ := hr
 refine r_move rfl rfl ?_
 refine r_extract rfl rfl rfl ?_
 refine r_extract rfl rfl rfl ?_
 refine r_assign rfl rfl ?_
 refine r_assign rfl rfl ?_
 refine awl_nil ?_
 refine x_then ?_
 refine awp_seq ?_
 refine awp_seq ?_
 refine awp_region ?_
 refine r_move rfl rfl ?_
 refine r_not rfl rfl ?_
 refine r_move rfl rfl ?_
 refine g_cases (t' := 20) rfl (fun hg20 => ?_) (fun hg20 => ?_)
 ·
  have hal : aliveF F i = false := by have := hg20; simpa [boolA] using this
  have hok : okL F i m = false := by unfold okL; rw [hal]; rfl
  refine g_skip rfl rfl hg20 rfl ?_
  refine g_skip rfl rfl hg20 rfl ?_
  refine g_skip rfl rfl hg20 rfl ?_
  refine r_pickT rfl hg20 rfl rfl ?_
  refine awl_nil ?_
  refine x_then ?_
  refine awp_condT rfl ?_
  refine awp_seq ?_
  refine awp_region ?_
  refine r_assign rfl rfl ?_
  refine r_assign rfl rfl ?_
  refine awl_nil ?_
  refine x_then ?_
  refine awp_ret ?_
  refine x_thenR ?_
  exact ⟨(.inl rfl), _, [], (.two (by first | exact .mk rfl rfl | exact .nil rfl) (by first | exact .mk rfl rfl | exact .nil rfl)), ⟨rfl, .inr ⟨hok, rfl⟩⟩, (List.nil_sublist _), (by simp)⟩
 ·
  have hal : aliveF F i = true := by have := hg20; simpa [boolA] using this
  have hnm : numF F i = w.num := by unfold numF; rw [hal, if_pos rfl, hw]; rfl
  refine g_run rfl rfl hg20 ?_
  refine r_move rfl rfl ?_
  refine g_run rfl rfl hg20 ?_
  refine r_move rfl rfl ?_
  refine g_run rfl rfl hg20 ?_
  refine r_cmp rfl rfl rfl rfl ?_
  refine r_pickF rfl hg20 rfl rfl ?_
  refine awl_nil ?_
  refine x_then ?_
  refine awp_cond rfl (fun hc0 => ?_) (fun hc0 => ?_)
  ·
   have hok : okL F i m = false := by first | exact hok | (have h1 : m < w.num := (by rw [← hnm]; exact of_decide_eq_true hc0); unfold okL; rw [hw]; simp [h1])
   refine awp_seq ?_
   refine awp_region ?_
   refine r_assign rfl rfl ?_
   refine r_assign rfl rfl ?_
   refine awl_nil ?_
   refine x_then ?_
   refine awp_ret ?_
   refine x_thenR ?_
   exact ⟨(.inl rfl), _, [], (.two (by first | exact .mk rfl rfl | exact .nil rfl) (by first | exact .mk rfl rfl | exact .nil rfl)), ⟨rfl, .inr ⟨hok, rfl⟩⟩, (List.nil_sublist _), (by simp)⟩
  ·
   have h1 : ¬ m < w.num := by rw [← hnm]; exact of_decide_eq_false hc0
   have hok : okL F i m = true := by unfold okL; rw [hw, hal]; simp [h1]
   rw [hnm]
   have hlf : lineF F i m = ⟨i, w.num, m⟩ :: lineGo F 16 i := by unfold lineF; rw [hw]; rfl
   refine awp_skip ?_
   refine x_then ?_
   refine awp_seq ?_
   refine awp_region ?_
   refine r_move rfl rfl ?_
   refine r_move rfl rfl ?_
   refine r_move rfl rfl ?_
   refine r_build (parts := [(0, .tmp 25), (1, .tmp 26), (2, .tmp 27)]) rfl TV.pl71 TV.zero71 rfl rfl rfl ?_
   refine r_lit 29 (parts := [(0, .tmp 28)]) rfl TV.sl30 TV.sz71 TV.zraw71 rfl rfl rfl rfl rfl rfl rfl ?_
   refine r_assign rfl rfl ?_
   refine awl_nil ?_
   refine x_then ?_
   refine awp_seq ?_
   refine awp_block ?_
   refine awp_loop (fun nn0 S => ∃ q : Nat, ∃ A : List St, S = ⟨55, [(0, .a (.v (.pointer (some ⟨gf, 0, none⟩)))), (1, .a (.v (.int .i64 ((q : Int))))), (10, .own 29 3 (A.map St.cs))], [⟨gf, false, .box (twsA F)⟩]⟩ ∧ nn0 = 2 * q ∧ (A ++ lineGo F 16 q = lineF F i m) ∧ (q = 0 ∨ ∃ v, F[q]? = some v ∧ v.alive = true) ∧ (q < 16 ∧ A.length + q ≤ 17)) (2 * (i)) ⟨55, [(0, .a (.v (.pointer (some ⟨gf, 0, none⟩)))), (1, .a (.v (.int .i64 (((i) : Int))))), (10, .own 29 3 (([⟨i, w.num, m⟩]).map St.cs))], [⟨gf, false, .box (twsA F)⟩]⟩ ⟨rfl, (Slots.cons rfl (by first | exact .refl _ | exact .nilOwn _ _ | exact .nilSl _ | exact .ownSl _ _ _  | exact SV.le.of_eq (by simp)) (Slots.cons rfl (by first | exact .refl _ | exact .nilOwn _ _ | exact .nilSl _ | exact .ownSl _ _ _  | exact SV.le.of_eq (by simp)) (Slots.cons rfl (by first | exact .refl _ | exact .nilOwn _ _ | exact .nilSl _ | exact .ownSl _ _ _  | exact SV.le.of_eq (by simp)) Slots.nil))), (by first | exact List.Sublist.refl _ | exact .cons_cons _ (.cons _ (.refl _)) | exact List.nil_sublist _ | exact .cons _ (.refl _) | exact .cons _ (.cons _ (.refl _)) | exact .cons _ (.cons _ (.cons _ (.refl _))) | exact .cons _ (.cons _ (.cons _ (.cons _ (.refl _)))) | exact .cons_cons _ (List.nil_sublist _))⟩ ⟨i, [⟨i, w.num, m⟩], rfl, rfl, hlf.symm, (by unfold aliveF at hal; rw [hw] at hal; by_cases h0 : i = 0; exact .inl h0; exact .inr ⟨w, hw, by simpa [h0] using hal⟩), ⟨hi, by simp; omega⟩⟩ ?_
   rintro nn0 _ ⟨q, A, rfl, rfl, hA, hq, hql⟩
   refine awp_seq ?_
   refine awp_seq ?_
   refine awp_region ?_
   refine r_move rfl rfl ?_
   refine r_cmp rfl rfl rfl rfl ?_
   refine awl_nil ?_
   refine x_then ?_
   refine awp_cond rfl (fun hc1 => ?_) (fun hc1 => ?_)
   ·
    have h0 : q ≠ 0 := by have := hc1; simp at this; omega
    obtain ⟨⟨wa, wp, wb, wn⟩, hv, hva⟩ := hq.resolve_left h0
    obtain ⟨j, hwp, hjq, hj2⟩ := hF.up q _ hv hva
    simp only at hwp
    subst hwp
    obtain ⟨v2, hv2⟩ : ∃ v, F[j]? = some v := get_lt (by rw [hF.len]; omega)
    have hgo : lineGo F 16 q = ⟨j, v2.num, wb⟩ :: lineGo F 16 j := by
     show lineGo F (15 + 1) q = _
     rw [lineGo, if_neg h0, hv]
     simp only [Option.getD_some, Int.toNat_natCast, hv2]
     rw [lineGo_fuel hF j 15 16 (by omega) (by omega) hj2]
    refine awp_skip ?_
    refine x_then ?_
    refine awp_block ?_
    refine awp_seq ?_
    refine awp_region ?_
    refine r_move rfl rfl ?_
    refine r_move rfl rfl ?_
    refine r_nilCheck rfl (by first | exact .pt _ _ | exact .v _ | exact .cp _) rfl ?_
    first | (refine r_fieldpt rfl TV.f84_0 TV.sz82 rfl ?_) | (refine r_fieldcp rfl TV.f84_0 TV.sz82 rfl ?_) | (refine r_fieldb rfl TV.f84_0 TV.sz82 rfl ?_)
    refine r_indexArrB rfl rfl TV.un82 TV.sz81 (by omega) (by omega) rfl ?_
    refine r_loadAbe 0 (Tw.cs ⟨wa, (j : Int), wb, wn⟩) (tw_flat hv).1 rfl rfl TV.agg81 TV.sz81 (tw_flat hv).2 rfl ?_
    refine r_alloc TV.zero81 rfl (fun b11 => ?_)
    first | (refine r_store 0 rfl rfl rfl TV.sz81 rfl rfl rfl ?_) | (refine r_store 1 rfl rfl rfl TV.sz81 rfl rfl rfl ?_)
    refine awl_nil ?_
    refine x_then ?_
    refine awp_seq ?_
    refine awp_region ?_
    first | (refine r_fieldpt rfl TV.f81_1 TV.sz3 rfl ?_) | (refine r_fieldcp rfl TV.f81_1 TV.sz3 rfl ?_) | (refine r_fieldb rfl TV.f81_1 TV.sz3 rfl ?_)
    first | (refine r_load1b 0 rfl rfl rfl TV.agg3 rfl ?_) | (refine r_load1 rfl TV.agg3 rfl ?_) | (refine r_load1b 1 rfl rfl rfl TV.agg3 rfl ?_)
    refine r_assign rfl rfl ?_
    refine awl_nil ?_
    refine x_then ?_
    refine awp_drawS [40, 41, 42, 43, 44, 45, 46, 47, 48, 49, 50, 51, 52] [_, _, _, _, _, _, _, _, _, _, _, _, _] [] [(12, 52)] TV.mixed rfl rfl rfl ⟨⟨⟨⟨⟨⟨⟨⟨⟨⟨⟨⟨⟨trivial
     , ⟨_, rfl, fun sl hd hr ho => by
       refine r_move (hr 10 _ rfl rfl rfl) rfl ?_
       exact awl_nil ⟨rfl, post_put⟩⟩⟩
     , ⟨_, rfl, fun sl hd hr ho => by
       refine r_move (hr 1 _ rfl rfl rfl) rfl ?_
       exact awl_nil ⟨rfl, post_put⟩⟩⟩
     , ⟨_, rfl, fun sl hd hr ho => by
       refine r_move (hr 0 _ rfl rfl rfl) rfl ?_
       exact awl_nil ⟨rfl, post_put⟩⟩⟩
     , ⟨_, rfl, fun sl hd hr ho => by
       refine r_move (hr 1 _ rfl rfl rfl) rfl ?_
       exact awl_nil ⟨rfl, post_put⟩⟩⟩
     , ⟨_, rfl, fun sl hd hr ho => by
       refine r_nilCheck (hd 2 _ rfl rfl rfl) (by first | exact .pt _ _ | exact .v _ | exact .cp _) rfl ?_
       exact awl_nil ⟨rfl, post_put⟩⟩⟩
     , ⟨_, rfl, fun sl hd hr ho => by
       first | (refine r_fieldpt (hd 4 _ rfl rfl rfl) TV.f84_0 TV.sz82 rfl ?_) | (refine r_fieldcp (hd 4 _ rfl rfl rfl) TV.f84_0 TV.sz82 rfl ?_) | (refine r_fieldb (hd 4 _ rfl rfl rfl) TV.f84_0 TV.sz82 rfl ?_)
       exact awl_nil ⟨rfl, post_put⟩⟩⟩
     , ⟨_, rfl, fun sl hd hr ho => by
       refine r_indexArrB (hd 5 _ rfl rfl rfl) (hd 3 _ rfl rfl rfl) TV.un82 TV.sz81 (show (0 : Int) ≤ (j : Int) from Int.natCast_nonneg j) (show (j : Int) < ((16 : Nat) : Int) by omega) rfl ?_
       exact awl_nil ⟨rfl, post_put⟩⟩⟩
     , ⟨_, rfl, fun sl hd hr ho => by
       first | (refine r_fieldpt (hd 6 _ rfl rfl rfl) TV.f81_3 TV.sz31 rfl ?_) | (refine r_fieldcp (hd 6 _ rfl rfl rfl) TV.f81_3 TV.sz31 rfl ?_) | (refine r_fieldb (hd 6 _ rfl rfl rfl) TV.f81_3 TV.sz31 rfl ?_)
       exact awl_nil ⟨rfl, post_put⟩⟩⟩
     , ⟨_, rfl, fun sl hd hr ho => by
       refine r_load1b 1 (hd 7 _ rfl rfl rfl) rfl (tw_at hv2 (k := 3) rfl) TV.agg31 rfl ?_
       exact awl_nil ⟨rfl, post_put⟩⟩⟩
     , ⟨_, rfl, fun sl hd hr ho => by
       first | (refine r_fieldpt (hr 11 _ rfl rfl rfl) TV.f81_2 TV.sz31 rfl ?_) | (refine r_fieldcp (hr 11 _ rfl rfl rfl) TV.f81_2 TV.sz31 rfl ?_) | (refine r_fieldb (hr 11 _ rfl rfl rfl) TV.f81_2 TV.sz31 rfl ?_)
       exact awl_nil ⟨rfl, post_put⟩⟩⟩
     , ⟨_, rfl, fun sl hd hr ho => by
       first | (refine r_load1b 0 (hd 9 _ rfl rfl rfl) rfl rfl TV.agg31 rfl ?_) | (refine r_load1 (hd 9 _ rfl rfl rfl) TV.agg31 rfl ?_) | (refine r_load1b 1 (hd 9 _ rfl rfl rfl) rfl rfl TV.agg31 rfl ?_)
       exact awl_nil ⟨rfl, post_put⟩⟩⟩
     , ⟨_, rfl, fun sl hd hr ho => by
       refine r_build (parts := [(0, .tmp 41), (1, .tmp 48), (2, .tmp 50)]) rfl TV.pl71 TV.zero71 (parts_cons (hd 1 _ rfl rfl rfl) (parts_cons (hd 8 _ rfl rfl rfl) (parts_cons (hd 10 _ rfl rfl rfl) parts_nil))) rfl rfl ?_
       exact awl_nil ⟨rfl, post_put⟩⟩⟩
     , ⟨_, rfl, fun sl hd hr ho => by
       refine r_lit 52 (parts := [(0, .tmp 51)]) rfl TV.sl30 TV.sz71 TV.zraw71 rfl rfl (parts_cons (hd 11 _ rfl rfl rfl) parts_nil) rfl rfl rfl rfl ?_
       exact awl_nil ⟨rfl, (post_dem (ho 52 (List.mem_of_elem_eq_true rfl)))⟩⟩⟩
     (by rfl) ?_
    refine r_append 29 rfl (by first | exact .own _ | exact .nil) rfl (by first | exact .sl _ | exact .own _ _ | exact .nil) TV.sl30 TV.sz71 (by decide) TV.by71 TV.zlen71 (by simp [chunks] <;> omega) (by simp [chunks] <;> omega) rfl ?_
    refine r_assign rfl rfl ?_
    refine awl_nil ?_
    refine x_block ?_
    refine x_then ?_
    refine ⟨2 * (j), ⟨55, [(0, .a (.v (.pointer (some ⟨gf, 0, none⟩)))), (1, .a (.v (.int .i64 (((j) : Int))))), (10, .own 29 3 ((A ++ [(⟨(j : Int), v2.num, wb⟩ : St)]).map St.cs))], [⟨gf, false, .box (twsA F)⟩]⟩, ⟨rfl, (Slots.cons rfl (by first | exact .refl _ | exact .nilOwn _ _ | exact .nilSl _ | exact .ownSl _ _ _  | exact SV.le.ownEq (by first | rfl | (rw [List.map_append]; rfl)) | exact SV.le.of_eq (by first | rfl | (rw [List.map_append]; rfl))) (Slots.cons rfl (by first | exact .refl _ | exact .nilOwn _ _ | exact .nilSl _ | exact .ownSl _ _ _  | exact SV.le.ownEq (by first | rfl | (rw [List.map_append]; rfl)) | exact SV.le.of_eq (by first | rfl | (rw [List.map_append]; rfl))) (Slots.cons rfl (by first | exact .refl _ | exact .nilOwn _ _ | exact .nilSl _ | exact .ownSl _ _ _  | exact SV.le.ownEq (by first | rfl | (rw [List.map_append]; rfl)) | exact SV.le.of_eq (by first | rfl | (rw [List.map_append]; rfl))) Slots.nil))), (.cons _ (List.Sublist.refl _))⟩, (by omega), ⟨j, A ++ [(⟨(j : Int), v2.num, wb⟩ : St)], rfl, rfl, (by rw [← hA, hgo]; simp), hj2, ⟨by omega, by simp; omega⟩⟩⟩
   ·
    have h0 : q = 0 := by have := hc1; simp at this; omega
    subst h0
    have hA2 : A = lineF F i m := by rw [← hA]; simp [lineGo]
    refine awp_exit ?_
    refine x_thenE ?_
    refine x_thenE ?_
    refine x_blockE ?_
    refine x_then ?_
    refine awp_seq ?_
    refine awp_region ?_
    refine r_move rfl rfl ?_
    refine r_assign rfl rfl ?_
    refine r_assign rfl rfl ?_
    refine awl_nil ?_
    refine x_then ?_
    refine awp_ret ?_
    exact ⟨(.inl rfl), _, [], (.two (by first | exact .mk rfl rfl | exact .nil rfl) (by first | exact .mk rfl rfl | exact .nil rfl)), ⟨rfl, .inl ⟨hok, by rw [← hA2]; rfl⟩⟩, (List.nil_sublist _), (by simp)⟩
end Go.Proofs.Ytpkodkoooaldlaa.A
namespace Go.Proofs.Ytpkodkoooaldlaa.A
open Go Go.RowKit
set_option linter.unusedVariables false
set_option linter.unusedSimpArgs false
set_option maxRecDepth 100000
theorem TV.zero33 : ZeroT Try.prog 33 [.v (.pointer none), .sl 3 [], .v (.int .u64 0)] := ⟨[(.pointer none), (.slice none 0 0), (.int .u64 0)], by kernel_rfl, (.cons (.refl _) (.cons (.nil 3) (.cons (.refl _) .nil)))⟩
theorem TV.en21 : entersT Try.prog 21 := enters_of Try.func21 (by kernel_rfl) (by kernel_rfl)
theorem TV.en22 : entersT Try.prog 22 := enters_of Try.func22 (by kernel_rfl) (by kernel_rfl)
theorem TV.pl33 : placesT Try.prog 33 = some [(0, 1), (1, 1), (2, 1)] := by kernel_rfl
theorem TV.sz33 : szT Try.prog 33 = some 3 := by kernel_rfl
theorem TV.agg33 : aggT Try.prog 33 = some true := by kernel_rfl
theorem TV.f33_1 : fieldT Try.prog 33 1 = some (1, 30) := by kernel_rfl
theorem TV.sz30 : szT Try.prog 30 = some 1 := by kernel_rfl
theorem TV.agg30 : aggT Try.prog 30 = some false := by kernel_rfl
theorem TV.agg71 : aggT Try.prog 71 = some true := by kernel_rfl
theorem TV.f71_0 : fieldT Try.prog 71 0 = some (0, 3) := by kernel_rfl
theorem TV.pl47 : placesT Try.prog 47 = some [(0, 1), (1, 1), (2, 1)] := by kernel_rfl
theorem TV.zero47 : ZeroT Try.prog 47 [.v (.int .i64 0), .v (.int .i64 0), .v (.int .i64 0)] := ⟨[(.int .i64 0), (.int .i64 0), (.int .i64 0)], by kernel_rfl, (LeCells.refl _)⟩
theorem TV.f33_0 : fieldT Try.prog 33 0 = some (0, 29) := by kernel_rfl
theorem TV.f71_2 : fieldT Try.prog 71 2 = some (2, 31) := by kernel_rfl
theorem TV.f71_1 : fieldT Try.prog 71 1 = some (1, 31) := by kernel_rfl
theorem TV.en11 : entersT Try.prog 11 := enters_of Try.func11 (by kernel_rfl) (by kernel_rfl)
theorem TV.pl57 : placesT Try.prog 57 = some [(0, 1), (1, 1), (2, 1)] := by kernel_rfl
theorem TV.zero57 : ZeroT Try.prog 57 [.v (.int .i64 0), .v (.int .i64 0), .v (.int .u64 0)] := ⟨[(.int .i64 0), (.int .i64 0), (.int .u64 0)], by kernel_rfl, (LeCells.refl _)⟩
theorem viewNew_ok (q : Rt × Int) (F : List Tw) (hF : Fo F) (i : Nat) (hi : i < 16) (m : Int) (g gf : Nat) (f f2 : Bool) : AC Try.prog 9 [.v (.pointer (some ⟨g, 0, none⟩)), .v (.pointer (some ⟨gf, 0, none⟩)), .v (.int .i64 (i : Int)), .v (.int .u64 (m))] [⟨g, f, .box [encT (some q)]⟩, ⟨gf, f2, .box (twsA F)⟩] (fun r n => n = [] ∧ ((okL F i m = true ∧ r = .tup [viewA (some q) (lineF F i m) m, .v (.int .i64 0)]) ∨ (okL F i m = false ∧ r = .tup [viewA none [] 0, .v (.int .i64 4)]))) := by
 refine ac_of_awpG (Res2K Try.prog (.cell 8 33) (.tmp 9)) (nt := 35) Try.func9 rfl rfl rfl (resK2_run rfl) (fun w0 C0 hq => ?_)
 refine awp_seq ?_
 refine awp_region ?_
 refine r_alloc TV.zero33 rfl (fun b8 => ?_)
 refine r_assign rfl rfl ?_
 refine awl_nil ?_
 refine x_then ?_
 refine awp_seq ?_
 refine awp_seq ?_
 refine awp_region ?_
 refine r_move rfl rfl ?_
 refine r_pnil rfl (by first | exact .pt _ _ | exact .nil | exact .v _ | exact .cp _) TV.un25 rfl ?_
 refine r_move rfl rfl ?_
 refine g_run rfl rfl rfl ?_
 refine r_move rfl rfl ?_
 refine g_run rfl rfl rfl ?_
 refine r_pnil rfl (by first | exact .pt _ _ | exact .nil | exact .v _ | exact .cp _) TV.un26 rfl ?_
 refine r_pickF rfl rfl rfl rfl ?_
 refine awl_nil ?_
 refine x_then ?_
 refine awp_cond rfl (fun hc0 => ?_) (fun hc0 => ?_)
 ·
  exfalso; cases hc0
 ·
  refine awp_skip ?_
  refine x_then ?_
  refine awp_seq ?_
  refine awp_region ?_
  refine r_move rfl rfl ?_
  refine r_move rfl rfl ?_
  refine r_move rfl rfl ?_
  refine r_callO hq rfl rfl (.cons (.ev rfl rfl) (.cons (.ev rfl rfl) (.cons (.ev rfl rfl) .nil))) (line_ok F hF i hi m gf false) rfl TV.en21 (.cons _ (.cons _ (List.Sublist.refl _))) rfl (fun r nobjs hr => ?_)
  obtain ⟨rfl, hr⟩ := hr
  rcases hr with ⟨hok, rfl⟩ | ⟨hok, rfl⟩
  ·
   refine r_move rfl rfl ?_
   refine r_extract rfl rfl rfl ?_
   refine r_extract rfl rfl rfl ?_
   refine r_assign rfl rfl ?_
   refine r_assign rfl rfl ?_
   refine awl_nil ?_
   refine x_then ?_
   refine awp_seq ?_
   refine awp_seq ?_
   refine awp_region ?_
   refine r_move rfl rfl ?_
   refine r_cmp rfl rfl rfl rfl ?_
   refine awl_nil ?_
   refine x_then ?_
   refine awp_cond rfl (fun hc1 => ?_) (fun hc1 => ?_)
   ·
    exfalso; exact absurd hc1 (by decide)
   ·
    refine awp_skip ?_
    refine x_then ?_
    refine awp_seq ?_
    refine awp_region ?_
    refine r_move rfl rfl ?_
    refine r_callO hq rfl rfl (.cons (.ev rfl rfl) .nil) (Tree_ok q g false) rfl TV.en22 (.cons _ (.cons_cons _ (List.nil_sublist _))) rfl (fun r nobjs hr => ?_)
    obtain ⟨rfl, rfl⟩ := hr
    refine r_move rfl rfl ?_
    refine r_move rfl rfl ?_
    refine r_build (parts := [(0, .tmp 31), (1, .tmp 32), (2, .tmp 33)]) rfl TV.pl33 TV.zero33 rfl rfl rfl ?_
    first | (refine r_store 0 rfl rfl rfl TV.sz33 rfl rfl rfl ?_) | (refine r_store 1 rfl rfl rfl TV.sz33 rfl rfl rfl ?_) | (refine r_store 2 rfl rfl rfl TV.sz33 rfl rfl rfl ?_)
    refine r_assign rfl rfl ?_
    refine awl_nil ?_
    refine x_then ?_
    refine awp_ret ?_
    exact ⟨(.inl rfl), _, [], ⟨_, _, (.box (by first | exact .mk' 0 rfl rfl TV.agg33 TV.sz33 rfl | exact .mk' 1 rfl rfl TV.agg33 TV.sz33 rfl | exact .mk' 2 rfl rfl TV.agg33 TV.sz33 rfl | exact .mk' 3 rfl rfl TV.agg33 TV.sz33 rfl | exact .mk' 4 rfl rfl TV.agg33 TV.sz33 rfl | exact .mk' 5 rfl rfl TV.agg33 TV.sz33 rfl)), (.tmp (by first | exact .mk rfl rfl | exact .nil rfl)), rfl⟩, ⟨rfl, .inl ⟨hok, rfl⟩⟩, (List.nil_sublist _), (by simp)⟩
  ·
   refine r_move rfl rfl ?_
   refine r_extract rfl rfl rfl ?_
   refine r_extract rfl rfl rfl ?_
   refine r_assign rfl rfl ?_
   refine r_assign rfl rfl ?_
   refine awl_nil ?_
   refine x_then ?_
   refine awp_seq ?_
   refine awp_seq ?_
   refine awp_region ?_
   refine r_move rfl rfl ?_
   refine r_cmp rfl rfl rfl rfl ?_
   refine awl_nil ?_
   refine x_then ?_
   refine awp_cond rfl (fun hc1 => ?_) (fun hc1 => ?_)
   ·
    skip
    refine awp_seq ?_
    refine awp_region ?_
    refine r_build (parts := []) rfl TV.pl33 TV.zero33 rfl rfl rfl ?_
    refine r_move rfl rfl ?_
    first | (refine r_store 0 rfl rfl rfl TV.sz33 rfl rfl rfl ?_) | (refine r_store 1 rfl rfl rfl TV.sz33 rfl rfl rfl ?_) | (refine r_store 2 rfl rfl rfl TV.sz33 rfl rfl rfl ?_)
    refine r_assign rfl rfl ?_
    refine awl_nil ?_
    refine x_then ?_
    refine awp_ret ?_
    refine x_thenR ?_
    exact ⟨(.inl rfl), _, [], ⟨_, _, (.box (by first | exact .mk' 0 rfl rfl TV.agg33 TV.sz33 rfl | exact .mk' 1 rfl rfl TV.agg33 TV.sz33 rfl | exact .mk' 2 rfl rfl TV.agg33 TV.sz33 rfl | exact .mk' 3 rfl rfl TV.agg33 TV.sz33 rfl | exact .mk' 4 rfl rfl TV.agg33 TV.sz33 rfl | exact .mk' 5 rfl rfl TV.agg33 TV.sz33 rfl)), (.tmp (by first | exact .mk rfl rfl | exact .nil rfl)), rfl⟩, ⟨rfl, .inr ⟨hok, rfl⟩⟩, (List.nil_sublist _), (by simp)⟩
   ·
    exfalso; exact absurd hc1 (by decide)
theorem viewNum_ok (t : TreeV) (x : List It) (hG : GoodT t x) (L : List St) (hL : L.length ≤ 1000) (m vol blk : Int) : AC Try.prog 11 [viewA t L m, .v (.int .i64 vol), .v (.int .i64 blk)] [] (fun r n => n = [] ∧ r = .tup [.v (.int .u64 ((numV x L vol blk).getD 0)), boolA (numV x L vol blk).isSome]) := by
 refine ac_of_awp (rs := [6, 7]) (nt := 54) Try.func11 rfl rfl rfl rfl (fun w0 C0 hq => ?_)
 refine awp_seq ?_
 refine awp_region ?_
 refine r_box rfl rfl rfl (fun b3 => ?_)
 refine r_assign rfl rfl ?_
 refine r_assign rfl rfl ?_
 refine awl_nil ?_
 refine x_then ?_
 refine awp_seq ?_
 refine awp_seq ?_
 refine awp_region ?_
 first | (refine r_fieldpt rfl TV.f33_1 TV.sz30 rfl ?_) | (refine r_fieldcp rfl TV.f33_1 TV.sz30 rfl ?_) | (refine r_fieldb rfl TV.f33_1 TV.sz30 rfl ?_)
 first | (refine r_load1b 0 rfl rfl rfl TV.agg30 rfl ?_) | (refine r_load1 rfl TV.agg30 rfl ?_)
 first | (refine r_lenS rfl rfl TV.sl30 rfl ?_) | (refine r_lenNil rfl TV.sl30 rfl ?_) | (refine r_lenV rfl TV.sl30 rfl ?_)
 refine r_move rfl rfl ?_
 refine awl_nil ?_
 refine x_then ?_
 refine awp_block ?_
 refine awp_loop (fun nn0 S => ∃ i : Nat, S = ⟨54, [(1, .a (.v (.int .i64 vol))), (2, .a (.v (.int .i64 blk))), (3, .a (.v (.pointer (some ⟨b3, 0, none⟩)))), (15, .a (.sl 3 (L.map St.cs))), (16, .a (.v (.int .i64 (((L.map St.cs).length : Nat))))), (17, .a (.v (.int .i64 ((i : Int)))))], [⟨b3, true, .box [encT t, .sl 3 (L.map St.cs), .v (.int .u64 (m))]⟩]⟩ ∧ nn0 = L.length - i ∧ (i ≤ L.length) ∧ (numV x L vol blk = numV x (L.drop i) vol blk)) (L.length - (0)) ⟨54, [(1, .a (.v (.int .i64 vol))), (2, .a (.v (.int .i64 blk))), (3, .a (.v (.pointer (some ⟨b3, 0, none⟩)))), (15, .a (.sl 3 (L.map St.cs))), (16, .a (.v (.int .i64 (((L.map St.cs).length : Nat))))), (17, .a (.v (.int .i64 (((0) : Int)))))], [⟨b3, true, .box [encT t, .sl 3 (L.map St.cs), .v (.int .u64 (m))]⟩]⟩ ⟨rfl, (Slots.cons rfl (by first | exact .refl _ | exact .nilOwn _ _ | exact .nilSl _ | exact .ownSl _ _ _  | exact SV.le.of_eq (by simp)) (Slots.cons rfl (by first | exact .refl _ | exact .nilOwn _ _ | exact .nilSl _ | exact .ownSl _ _ _  | exact SV.le.of_eq (by simp)) (Slots.cons rfl (by first | exact .refl _ | exact .nilOwn _ _ | exact .nilSl _ | exact .ownSl _ _ _  | exact SV.le.of_eq (by simp)) (Slots.cons rfl (by first | exact .refl _ | exact .nilOwn _ _ | exact .nilSl _ | exact .ownSl _ _ _  | exact SV.le.of_eq (by simp)) (Slots.cons rfl (by first | exact .refl _ | exact .nilOwn _ _ | exact .nilSl _ | exact .ownSl _ _ _  | exact SV.le.of_eq (by simp)) (Slots.cons rfl (by first | exact .refl _ | exact .nilOwn _ _ | exact .nilSl _ | exact .ownSl _ _ _  | exact SV.le.of_eq (by simp)) Slots.nil)))))), (by first | exact List.Sublist.refl _ | exact .cons_cons _ (.cons _ (.refl _)) | exact List.nil_sublist _ | exact .cons _ (.refl _) | exact .cons _ (.cons _ (.refl _)) | exact .cons _ (.cons _ (.cons _ (.refl _))) | exact .cons _ (.cons _ (.cons _ (.cons _ (.refl _)))) | exact .cons_cons _ (List.nil_sublist _))⟩ ⟨0, rfl, rfl, Nat.zero_le _, rfl⟩ ?_
 rintro nn0 _ ⟨i, rfl, rfl, hi, hp⟩
 refine awp_seq ?_
 refine awp_region ?_
 refine r_cmp rfl rfl rfl rfl ?_
 refine awl_nil ?_
 refine x_then ?_
 refine awp_seq ?_
 refine awp_cond rfl (fun hc0 => ?_) (fun hc0 => ?_)
 ·
  have hlts : i < L.length := by have := of_decide_eq_true hc0; simpa using this
  obtain ⟨s, hs⟩ := get_lt hlts
  refine awp_skip ?_
  refine x_then ?_
  refine awp_seq ?_
  refine awp_block ?_
  refine awp_seq ?_
  refine awp_region ?_
  refine r_index rfl rfl rfl TV.sl30 TV.sz71 (by omega) (get_map hs) rfl ?_
  first | (refine r_loadAb 0 rfl rfl TV.agg71 TV.sz71 rfl rfl ?_) | (refine r_loadA rfl TV.agg71 TV.sz71 rfl rfl ?_)
  refine r_alloc TV.zero71 rfl (fun b9 => ?_)
  first | (refine r_store 0 rfl rfl rfl TV.sz71 rfl rfl rfl ?_) | (refine r_store 1 rfl rfl rfl TV.sz71 rfl rfl rfl ?_)
  refine awl_nil ?_
  refine x_then ?_
  refine awp_seq ?_
  refine awp_region ?_
  first | (refine r_fieldpt rfl TV.f71_0 TV.sz3 rfl ?_) | (refine r_fieldcp rfl TV.f71_0 TV.sz3 rfl ?_) | (refine r_fieldb rfl TV.f71_0 TV.sz3 rfl ?_)
  first | (refine r_load1b 0 rfl rfl rfl TV.agg3 rfl ?_) | (refine r_load1 rfl TV.agg3 rfl ?_) | (refine r_load1b 1 rfl rfl rfl TV.agg3 rfl ?_)
  refine r_move rfl rfl ?_
  refine r_move rfl rfl ?_
  refine r_build (parts := [(0, .tmp 22), (1, .tmp 23), (2, .tmp 24)]) rfl TV.pl47 TV.zero47 rfl rfl rfl ?_
  refine r_alloc TV.zero47 rfl (fun b10 => ?_)
  first | (refine r_store 0 rfl rfl rfl TV.sz47 rfl rfl rfl ?_) | (refine r_store 1 rfl rfl rfl TV.sz47 rfl rfl rfl ?_) | (refine r_store 2 rfl rfl rfl TV.sz47 rfl rfl rfl ?_)
  refine awl_nil ?_
  refine x_then ?_
  refine awp_seq ?_
  refine awp_region ?_
  first | (refine r_fieldpt rfl TV.f33_0 TV.sz29 rfl ?_) | (refine r_fieldcp rfl TV.f33_0 TV.sz29 rfl ?_) | (refine r_fieldb rfl TV.f33_0 TV.sz29 rfl ?_)
  first | (refine r_load1b 0 rfl rfl rfl TV.agg29 rfl ?_) | (refine r_load1 rfl TV.agg29 rfl ?_) | (refine r_load1b 1 rfl rfl rfl TV.agg29 rfl ?_) | (refine r_load1b 2 rfl rfl rfl TV.agg29 rfl ?_)
  first | (refine r_loadAb 0 rfl rfl TV.agg47 TV.sz47 rfl rfl ?_) | (refine r_loadA rfl TV.agg47 TV.sz47 rfl rfl ?_) | (refine r_loadAb 1 rfl rfl TV.agg47 TV.sz47 rfl rfl ?_) | (refine r_loadAb 2 rfl rfl TV.agg47 TV.sz47 rfl rfl ?_)
  first | (refine r_fieldpt rfl TV.f71_2 TV.sz31 rfl ?_) | (refine r_fieldcp rfl TV.f71_2 TV.sz31 rfl ?_) | (refine r_fieldb rfl TV.f71_2 TV.sz31 rfl ?_)
  first | (refine r_load1b 0 rfl rfl rfl TV.agg31 rfl ?_) | (refine r_load1 rfl TV.agg31 rfl ?_) | (refine r_load1b 1 rfl rfl rfl TV.agg31 rfl ?_) | (refine r_load1b 2 rfl rfl rfl TV.agg31 rfl ?_)
  refine r_build (parts := [(0, .tmp 29), (1, .tmp 31)]) rfl TV.pl73 TV.zero73 rfl rfl rfl ?_
  refine r_call0 hq rfl rfl (.cons (.ev rfl rfl) (.cons (.ev rfl rfl) .nil)) (Floor_ok t x hG (atM (⟨s.br, vol, blk, 0⟩ : Sp) s.up)) rfl TV.en24 rfl (fun r hr => ?_)
  obtain rfl := hr
  obtain ⟨o, hfo⟩ : ∃ o, o = floorL x (atM (⟨s.br, vol, blk, 0⟩ : Sp) s.up) := ⟨_, rfl⟩
  rw [← hfo]
  rcases o with _ | z
  ·
   have htn := top_non hfo.symm
   refine r_move rfl rfl ?_
   refine r_extract rfl rfl rfl ?_
   refine r_extract rfl rfl rfl ?_
   refine r_extract rfl rfl rfl ?_
   refine r_alloc TV.zero73 rfl (fun b11 => ?_)
   first | (refine r_store 0 rfl rfl rfl TV.sz73 rfl rfl rfl ?_) | (refine r_store 1 rfl rfl rfl TV.sz73 rfl rfl rfl ?_) | (refine r_store 2 rfl rfl rfl TV.sz73 rfl rfl rfl ?_) | (refine r_store 3 rfl rfl rfl TV.sz73 rfl rfl rfl ?_)
   refine r_assign rfl rfl ?_
   refine r_assign rfl rfl ?_
   refine awl_nil ?_
   refine x_then ?_
   refine awp_seq ?_
   refine awp_region ?_
   refine r_move rfl rfl ?_
   refine r_move rfl rfl ?_
   refine g_skip rfl rfl rfl rfl ?_
   refine g_skip rfl rfl rfl rfl ?_
   refine g_skip rfl rfl rfl rfl ?_
   refine g_skip rfl rfl rfl rfl ?_
   refine r_pickF rfl rfl rfl rfl ?_
   refine r_move rfl rfl ?_
   refine g_skip rfl rfl rfl rfl ?_
   refine g_skip rfl rfl rfl rfl ?_
   refine g_skip rfl rfl rfl rfl ?_
   refine g_skip rfl rfl rfl rfl ?_
   refine g_skip rfl rfl rfl rfl ?_
   refine r_pickF rfl rfl rfl rfl ?_
   refine awl_nil ?_
   refine x_then ?_
   refine awp_condF rfl ?_
   refine awp_skip ?_
   refine x_block ?_
   refine x_then ?_
   refine awp_region ?_
   refine r_ari _ rfl rfl rfl (wrap_id (by first | omega | (simp; omega))) rfl ?_
   refine r_move rfl rfl ?_
   refine awl_nil ?_
   refine x_then ?_
   refine ⟨L.length - (i + 1), ⟨54, [(1, .a (.v (.int .i64 vol))), (2, .a (.v (.int .i64 blk))), (3, .a (.v (.pointer (some ⟨b3, 0, none⟩)))), (15, .a (.sl 3 (L.map St.cs))), (16, .a (.v (.int .i64 (((L.map St.cs).length : Nat))))), (17, .a (.v (.int .i64 (((i + 1) : Int)))))], [⟨b3, true, .box [encT t, .sl 3 (L.map St.cs), .v (.int .u64 (m))]⟩]⟩, ⟨rfl, (Slots.cons rfl (by first | exact .refl _ | exact .nilOwn _ _ | exact .nilSl _ | exact .ownSl _ _ _  | exact SV.le.of_eq (by simp)) (Slots.cons rfl (by first | exact .refl _ | exact .nilOwn _ _ | exact .nilSl _ | exact .ownSl _ _ _  | exact SV.le.of_eq (by simp)) (Slots.cons rfl (by first | exact .refl _ | exact .nilOwn _ _ | exact .nilSl _ | exact .ownSl _ _ _  | exact SV.le.of_eq (by simp)) (Slots.cons rfl (by first | exact .refl _ | exact .nilOwn _ _ | exact .nilSl _ | exact .ownSl _ _ _  | exact SV.le.of_eq (by simp)) (Slots.cons rfl (by first | exact .refl _ | exact .nilOwn _ _ | exact .nilSl _ | exact .ownSl _ _ _  | exact SV.le.of_eq (by simp)) (Slots.cons rfl (by first | exact .refl _ | exact .nilOwn _ _ | exact .nilSl _ | exact .ownSl _ _ _  | exact SV.le.of_eq (by simp)) Slots.nil)))))), (by first | exact List.Sublist.refl _ | exact .cons_cons _ (.cons _ (.refl _)) | exact List.nil_sublist _ | exact .cons _ (.refl _) | exact .cons _ (.cons _ (.refl _)) | exact .cons _ (.cons _ (.cons _ (.refl _))) | exact .cons _ (.cons _ (.cons _ (.cons _ (.refl _)))) | exact .cons_cons _ (List.nil_sublist _))⟩, (by omega), ⟨i + 1, rfl, rfl, (by omega), (numV_miss hs hp (fun v h => by rw [htn] at h; cases h))⟩⟩
  ·
   refine r_move rfl rfl ?_
   refine r_extract rfl rfl rfl ?_
   refine r_extract rfl rfl rfl ?_
   refine r_extract rfl rfl rfl ?_
   refine r_alloc TV.zero73 rfl (fun b11 => ?_)
   first | (refine r_store 0 rfl rfl rfl TV.sz73 rfl rfl rfl ?_) | (refine r_store 1 rfl rfl rfl TV.sz73 rfl rfl rfl ?_) | (refine r_store 2 rfl rfl rfl TV.sz73 rfl rfl rfl ?_) | (refine r_store 3 rfl rfl rfl TV.sz73 rfl rfl rfl ?_)
   refine r_assign rfl rfl ?_
   refine r_assign rfl rfl ?_
   refine awl_nil ?_
   refine x_then ?_
   refine awp_seq ?_
   refine awp_region ?_
   refine r_move rfl rfl ?_
   refine r_move rfl rfl ?_
   refine g_run rfl rfl rfl ?_
   first | (refine r_fieldpt rfl TV.f73_0 TV.sz47 rfl ?_) | (refine r_fieldcp rfl TV.f73_0 TV.sz47 rfl ?_) | (refine r_fieldb rfl TV.f73_0 TV.sz47 rfl ?_)
   refine g_run rfl rfl rfl ?_
   first | (refine r_loadAb 0 rfl rfl TV.agg47 TV.sz47 rfl rfl ?_) | (refine r_loadA rfl TV.agg47 TV.sz47 rfl rfl ?_) | (refine r_loadAb 1 rfl rfl TV.agg47 TV.sz47 rfl rfl ?_) | (refine r_loadAb 2 rfl rfl TV.agg47 TV.sz47 rfl rfl ?_) | (refine r_loadAb 3 rfl rfl TV.agg47 TV.sz47 rfl rfl ?_)
   refine g_run rfl rfl rfl ?_
   first | (refine r_loadAb 0 rfl rfl TV.agg47 TV.sz47 rfl rfl ?_) | (refine r_loadA rfl TV.agg47 TV.sz47 rfl rfl ?_) | (refine r_loadAb 1 rfl rfl TV.agg47 TV.sz47 rfl rfl ?_) | (refine r_loadAb 2 rfl rfl TV.agg47 TV.sz47 rfl rfl ?_) | (refine r_loadAb 3 rfl rfl TV.agg47 TV.sz47 rfl rfl ?_)
   refine g_run rfl rfl rfl ?_
   refine r_feq rfl rfl flatPl (isVal_plT z.1) (isVal_plT (⟨s.br, vol, blk, 0⟩ : Sp)) (plV_kn _) (plV_kn _) (decide (samePl z.1 (⟨s.br, vol, blk, 0⟩ : Sp))) (plV_same z.1 (⟨s.br, vol, blk, 0⟩ : Sp)) rfl ?_
   refine r_pickT rfl rfl rfl rfl ?_
   refine r_move rfl rfl ?_
   refine g_cases (t' := 44) rfl (fun hg44 => ?_) (fun hg44 => ?_)
   ·
    have hsp : samePl z.1 (⟨s.br, vol, blk, 0⟩ : Sp) := of_decide_eq_true hg44
    have htn := top_of hfo.symm hsp
    refine g_run rfl rfl hg44 ?_
    first | (refine r_fieldpt rfl TV.f73_1 TV.sz31 rfl ?_) | (refine r_fieldcp rfl TV.f73_1 TV.sz31 rfl ?_) | (refine r_fieldb rfl TV.f73_1 TV.sz31 rfl ?_)
    refine g_run rfl rfl hg44 ?_
    first | (refine r_load1b 0 rfl rfl rfl TV.agg31 rfl ?_) | (refine r_load1 rfl TV.agg31 rfl ?_) | (refine r_load1b 1 rfl rfl rfl TV.agg31 rfl ?_) | (refine r_load1b 2 rfl rfl rfl TV.agg31 rfl ?_) | (refine r_load1b 3 rfl rfl rfl TV.agg31 rfl ?_)
    refine g_run rfl rfl hg44 ?_
    first | (refine r_fieldpt rfl TV.f71_1 TV.sz31 rfl ?_) | (refine r_fieldcp rfl TV.f71_1 TV.sz31 rfl ?_) | (refine r_fieldb rfl TV.f71_1 TV.sz31 rfl ?_)
    refine g_run rfl rfl hg44 ?_
    first | (refine r_load1b 0 rfl rfl rfl TV.agg31 rfl ?_) | (refine r_load1 rfl TV.agg31 rfl ?_) | (refine r_load1b 1 rfl rfl rfl TV.agg31 rfl ?_) | (refine r_load1b 2 rfl rfl rfl TV.agg31 rfl ?_) | (refine r_load1b 3 rfl rfl rfl TV.agg31 rfl ?_)
    refine g_run rfl rfl hg44 ?_
    refine r_cmp rfl rfl rfl rfl ?_
    refine r_pickT rfl hg44 rfl rfl ?_
    refine awl_nil ?_
    refine x_then ?_
    refine awp_cond rfl (fun hc1 => ?_) (fun hc1 => ?_)
    ·
     have hlt : s.fr < z.1.nu := of_decide_eq_true hc1
     have hnv := numV_hit hs hp htn hlt
     refine awp_seq ?_
     refine awp_region ?_
     first | (refine r_fieldpt rfl TV.f73_1 TV.sz31 rfl ?_) | (refine r_fieldcp rfl TV.f73_1 TV.sz31 rfl ?_) | (refine r_fieldb rfl TV.f73_1 TV.sz31 rfl ?_)
     first | (refine r_load1b 0 rfl rfl rfl TV.agg31 rfl ?_) | (refine r_load1 rfl TV.agg31 rfl ?_) | (refine r_load1b 1 rfl rfl rfl TV.agg31 rfl ?_) | (refine r_load1b 2 rfl rfl rfl TV.agg31 rfl ?_) | (refine r_load1b 3 rfl rfl rfl TV.agg31 rfl ?_)
     refine r_assign rfl rfl ?_
     refine r_assign rfl rfl ?_
     refine awl_nil ?_
     refine x_then ?_
     refine awp_ret ?_
     refine x_blockR ?_
     refine x_thenR ?_
     refine x_thenR ?_
     refine x_blockR ?_
     refine x_thenR ?_
     exact ⟨(.inl rfl), _, [], (.two (by first | exact .mk rfl rfl | exact .nil rfl) (by first | exact .mk rfl rfl | exact .nil rfl)), ⟨rfl, by rw [hnv]; rfl⟩, (List.nil_sublist _), (by simp)⟩
    ·
     have hlt : ¬ s.fr < z.1.nu := of_decide_eq_false hc1
     refine awp_skip ?_
     refine x_block ?_
     refine x_then ?_
     refine awp_region ?_
     refine r_ari _ rfl rfl rfl (wrap_id (by first | omega | (simp; omega))) rfl ?_
     refine r_move rfl rfl ?_
     refine awl_nil ?_
     refine x_then ?_
     refine ⟨L.length - (i + 1), ⟨54, [(1, .a (.v (.int .i64 vol))), (2, .a (.v (.int .i64 blk))), (3, .a (.v (.pointer (some ⟨b3, 0, none⟩)))), (15, .a (.sl 3 (L.map St.cs))), (16, .a (.v (.int .i64 (((L.map St.cs).length : Nat))))), (17, .a (.v (.int .i64 (((i + 1) : Int)))))], [⟨b3, true, .box [encT t, .sl 3 (L.map St.cs), .v (.int .u64 (m))]⟩]⟩, ⟨rfl, (Slots.cons rfl (by first | exact .refl _ | exact .nilOwn _ _ | exact .nilSl _ | exact .ownSl _ _ _  | exact SV.le.of_eq (by simp)) (Slots.cons rfl (by first | exact .refl _ | exact .nilOwn _ _ | exact .nilSl _ | exact .ownSl _ _ _  | exact SV.le.of_eq (by simp)) (Slots.cons rfl (by first | exact .refl _ | exact .nilOwn _ _ | exact .nilSl _ | exact .ownSl _ _ _  | exact SV.le.of_eq (by simp)) (Slots.cons rfl (by first | exact .refl _ | exact .nilOwn _ _ | exact .nilSl _ | exact .ownSl _ _ _  | exact SV.le.of_eq (by simp)) (Slots.cons rfl (by first | exact .refl _ | exact .nilOwn _ _ | exact .nilSl _ | exact .ownSl _ _ _  | exact SV.le.of_eq (by simp)) (Slots.cons rfl (by first | exact .refl _ | exact .nilOwn _ _ | exact .nilSl _ | exact .ownSl _ _ _  | exact SV.le.of_eq (by simp)) Slots.nil)))))), (by first | exact List.Sublist.refl _ | exact .cons_cons _ (.cons _ (.refl _)) | exact List.nil_sublist _ | exact .cons _ (.refl _) | exact .cons _ (.cons _ (.refl _)) | exact .cons _ (.cons _ (.cons _ (.refl _))) | exact .cons _ (.cons _ (.cons _ (.cons _ (.refl _)))) | exact .cons_cons _ (List.nil_sublist _))⟩, (by omega), ⟨i + 1, rfl, rfl, (by omega), (numV_miss hs hp (fun v h => by rw [htn] at h; first | (cases h; exact hlt) | cases h))⟩⟩
   ·
    have hsp : ¬ samePl z.1 (⟨s.br, vol, blk, 0⟩ : Sp) := of_decide_eq_false hg44
    have htn := top_not hfo.symm hsp
    refine g_skip rfl rfl hg44 rfl ?_
    refine g_skip rfl rfl hg44 rfl ?_
    refine g_skip rfl rfl hg44 rfl ?_
    refine g_skip rfl rfl hg44 rfl ?_
    refine g_skip rfl rfl hg44 rfl ?_
    refine r_pickF rfl hg44 rfl rfl ?_
    refine awl_nil ?_
    refine x_then ?_
    refine awp_condF rfl ?_
    refine awp_skip ?_
    refine x_block ?_
    refine x_then ?_
    refine awp_region ?_
    refine r_ari _ rfl rfl rfl (wrap_id (by first | omega | (simp; omega))) rfl ?_
    refine r_move rfl rfl ?_
    refine awl_nil ?_
    refine x_then ?_
    refine ⟨L.length - (i + 1), ⟨54, [(1, .a (.v (.int .i64 vol))), (2, .a (.v (.int .i64 blk))), (3, .a (.v (.pointer (some ⟨b3, 0, none⟩)))), (15, .a (.sl 3 (L.map St.cs))), (16, .a (.v (.int .i64 (((L.map St.cs).length : Nat))))), (17, .a (.v (.int .i64 (((i + 1) : Int)))))], [⟨b3, true, .box [encT t, .sl 3 (L.map St.cs), .v (.int .u64 (m))]⟩]⟩, ⟨rfl, (Slots.cons rfl (by first | exact .refl _ | exact .nilOwn _ _ | exact .nilSl _ | exact .ownSl _ _ _  | exact SV.le.of_eq (by simp)) (Slots.cons rfl (by first | exact .refl _ | exact .nilOwn _ _ | exact .nilSl _ | exact .ownSl _ _ _  | exact SV.le.of_eq (by simp)) (Slots.cons rfl (by first | exact .refl _ | exact .nilOwn _ _ | exact .nilSl _ | exact .ownSl _ _ _  | exact SV.le.of_eq (by simp)) (Slots.cons rfl (by first | exact .refl _ | exact .nilOwn _ _ | exact .nilSl _ | exact .ownSl _ _ _  | exact SV.le.of_eq (by simp)) (Slots.cons rfl (by first | exact .refl _ | exact .nilOwn _ _ | exact .nilSl _ | exact .ownSl _ _ _  | exact SV.le.of_eq (by simp)) (Slots.cons rfl (by first | exact .refl _ | exact .nilOwn _ _ | exact .nilSl _ | exact .ownSl _ _ _  | exact SV.le.of_eq (by simp)) Slots.nil)))))), (by first | exact List.Sublist.refl _ | exact .cons_cons _ (.cons _ (.refl _)) | exact List.nil_sublist _ | exact .cons _ (.refl _) | exact .cons _ (.cons _ (.refl _)) | exact .cons _ (.cons _ (.cons _ (.refl _))) | exact .cons _ (.cons _ (.cons _ (.cons _ (.refl _)))) | exact .cons_cons _ (List.nil_sublist _))⟩, (by omega), ⟨i + 1, rfl, rfl, (by omega), (numV_miss hs hp (fun v h => by rw [htn] at h; first | (cases h; exact hlt) | cases h))⟩⟩
 ·
  have hge : L.length ≤ i := by have := of_decide_eq_false hc0; simp at this; omega
  have hnv := numV_end hge hp
  refine awp_exit ?_
  refine x_thenE ?_
  refine x_thenE ?_
  refine x_blockE ?_
  refine x_then ?_
  refine awp_seq ?_
  refine awp_region ?_
  refine r_assign rfl rfl ?_
  refine r_assign rfl rfl ?_
  refine awl_nil ?_
  refine x_then ?_
  refine awp_ret ?_
  exact ⟨(.inl rfl), _, [], (.two (by first | exact .mk rfl rfl | exact .nil rfl) (by first | exact .mk rfl rfl | exact .nil rfl)), ⟨rfl, by rw [hnv]; rfl⟩, (List.nil_sublist _), (by simp)⟩
theorem viewAll_ok (t : TreeV) (L : List St) (m : Int) (vs bs : Nat) (hv : vs ≤ 8) (hb : bs ≤ 256) : AC Try.prog 14 [viewA t L m, .v (.int .i64 (vs : Int)), .v (.int .i64 (bs : Int))] [] (fun r n => n = [] ∧ r = .fn 28 [.cp [.v (.int .i64 ((vs : Int)))], .cp [.v (.int .i64 ((bs : Int)))], .cp [encT t, .sl 3 (L.map St.cs), .v (.int .u64 (m))]]) := by
 refine ac_of_awp (rs := [6]) (nt := 12) Try.func14 rfl rfl rfl rfl (fun w0 C0 hq => ?_)
 refine awp_seq ?_
 refine awp_region ?_
 refine r_box rfl rfl rfl (fun b3 => ?_)
 refine r_box rfl rfl rfl (fun b4 => ?_)
 refine r_box rfl rfl rfl (fun b5 => ?_)
 refine r_assign rfl rfl ?_
 refine awl_nil ?_
 refine x_then ?_
 refine awp_seq ?_
 refine awp_any (fun B S => ∃ sl : List (Nat × SV), S = ⟨12, sl, [⟨b5, true, .box [.v (.int .i64 (cond (B 5) (min (bs : Int) 256) (bs : Int)))]⟩, ⟨b4, true, .box [.v (.int .i64 (cond (B 4) (min (vs : Int) 8) (vs : Int)))]⟩, ⟨b3, true, .box [encT t, .sl 3 (L.map St.cs), .v (.int .u64 (m))]⟩]⟩ ∧ find 3 sl = some (.a (.v (.pointer (some ⟨b3, 0, none⟩)))) ∧ find 4 sl = some (.a (.v (.pointer (some ⟨b4, 0, none⟩)))) ∧ find 5 sl = some (.a (.v (.pointer (some ⟨b5, 0, none⟩)))) ∧ (B 0 = true → find 7 sl = some (.a (.v (.int .i64 ((vs : Int)))))) ∧ (B 1 = true → find 8 sl = some (.a (.v (.int .i64 (min (vs : Int) 8))))) ∧ (B 2 = true → find 9 sl = some (.a (.v (.int .i64 ((bs : Int)))))) ∧ (B 3 = true → find 10 sl = some (.a (.v (.int .i64 (min (bs : Int) 256)))))) TV.mixed rfl ⟨_, rfl, rfl, rfl, rfl, (fun h => by cases h), (fun h => by cases h), (fun h => by cases h), (fun h => by cases h)⟩ ⟨⟨⟨⟨⟨⟨trivial
  , ⟨_, rfl, fun B S hBi hdep hcl => by
    rintro ⟨sl, rfl, h3, h4, h5, f0, f1, f2, f3⟩
    have e4 : B 4 = false := by cases h : B 4 with | false => rfl | true => exact absurd (hcl 4 0 h rfl) (by rw [hBi]; decide)
    rw [e4]
    first | (refine r_load1b 0 h4 rfl rfl TV.agg3 rfl ?_) | (refine r_load1 h4 TV.agg3 rfl ?_) | (refine r_load1b 1 h4 rfl rfl TV.agg3 rfl ?_) | (refine r_load1b 2 h4 rfl rfl TV.agg3 rfl ?_)
    exact awl_nil ⟨rfl, ((7, .a (.v (.int .i64 ((vs : Int))))) :: sl), (by show _ = (⟨12, _, [⟨b5, true, .box [.v (.int .i64 (cond (B 5) (min (bs : Int) 256) (bs : Int)))]⟩, ⟨b4, true, .box [.v (.int .i64 (cond (B 4) (min (vs : Int) 8) (vs : Int)))]⟩, ⟨b3, true, .box [encT t, .sl 3 (L.map St.cs), .v (.int .u64 (m))]⟩]⟩ : AState); rw [e4]; rfl), h3, h4, h5, (fun h => rfl), f1, f2, f3⟩⟩⟩
  , ⟨_, rfl, fun B S hBi hdep hcl => by
    rintro ⟨sl, rfl, h3, h4, h5, f0, f1, f2, f3⟩
    refine r_min (f0 (hdep 0 rfl)) rfl rfl ?_
    exact awl_nil ⟨rfl, _, rfl, h3, h4, h5, f0, (fun h => rfl), f2, f3⟩⟩⟩
  , ⟨_, rfl, fun B S hBi hdep hcl => by
    rintro ⟨sl, rfl, h3, h4, h5, f0, f1, f2, f3⟩
    have e5 : B 5 = false := by cases h : B 5 with | false => rfl | true => exact absurd (hcl 5 2 h rfl) (by rw [hBi]; decide)
    rw [e5]
    first | (refine r_load1b 0 h5 rfl rfl TV.agg3 rfl ?_) | (refine r_load1 h5 TV.agg3 rfl ?_) | (refine r_load1b 1 h5 rfl rfl TV.agg3 rfl ?_) | (refine r_load1b 2 h5 rfl rfl TV.agg3 rfl ?_)
    exact awl_nil ⟨rfl, ((9, .a (.v (.int .i64 ((bs : Int))))) :: sl), (by show _ = (⟨12, _, [⟨b5, true, .box [.v (.int .i64 (cond (B 5) (min (bs : Int) 256) (bs : Int)))]⟩, ⟨b4, true, .box [.v (.int .i64 (cond (B 4) (min (vs : Int) 8) (vs : Int)))]⟩, ⟨b3, true, .box [encT t, .sl 3 (L.map St.cs), .v (.int .u64 (m))]⟩]⟩ : AState); rw [e5]; rfl), h3, h4, h5, f0, f1, (fun h => rfl), f3⟩⟩⟩
  , ⟨_, rfl, fun B S hBi hdep hcl => by
    rintro ⟨sl, rfl, h3, h4, h5, f0, f1, f2, f3⟩
    refine r_min (f2 (hdep 2 rfl)) rfl rfl ?_
    exact awl_nil ⟨rfl, _, rfl, h3, h4, h5, f0, f1, f2, (fun h => rfl)⟩⟩⟩
  , ⟨_, rfl, fun B S hBi hdep hcl => by
    rintro ⟨sl, rfl, h3, h4, h5, f0, f1, f2, f3⟩
    rw [hBi]
    first | (refine r_store 0 h4 rfl (f1 (hdep 1 rfl)) TV.sz3 rfl rfl rfl ?_) | (refine r_store 1 h4 rfl (f1 (hdep 1 rfl)) TV.sz3 rfl rfl rfl ?_) | (refine r_store 2 h4 rfl (f1 (hdep 1 rfl)) TV.sz3 rfl rfl rfl ?_)
    exact awl_nil ⟨rfl, sl, (by show _ = (⟨12, _, [⟨b5, true, .box [.v (.int .i64 (cond (B 5) (min (bs : Int) 256) (bs : Int)))]⟩, ⟨b4, true, .box [.v (.int .i64 (cond true (min (vs : Int) 8) (vs : Int)))]⟩, ⟨b3, true, .box [encT t, .sl 3 (L.map St.cs), .v (.int .u64 (m))]⟩]⟩ : AState); rfl), h3, h4, h5, f0, f1, f2, f3⟩⟩⟩
  , ⟨_, rfl, fun B S hBi hdep hcl => by
    rintro ⟨sl, rfl, h3, h4, h5, f0, f1, f2, f3⟩
    rw [hBi]
    first | (refine r_store 0 h5 rfl (f3 (hdep 3 rfl)) TV.sz3 rfl rfl rfl ?_) | (refine r_store 1 h5 rfl (f3 (hdep 3 rfl)) TV.sz3 rfl rfl rfl ?_) | (refine r_store 2 h5 rfl (f3 (hdep 3 rfl)) TV.sz3 rfl rfl rfl ?_)
    exact awl_nil ⟨rfl, sl, (by show _ = (⟨12, _, [⟨b5, true, .box [.v (.int .i64 (cond true (min (bs : Int) 256) (bs : Int)))]⟩, ⟨b4, true, .box [.v (.int .i64 (cond (B 4) (min (vs : Int) 8) (vs : Int)))]⟩, ⟨b3, true, .box [encT t, .sl 3 (L.map St.cs), .v (.int .u64 (m))]⟩]⟩ : AState); rfl), h3, h4, h5, f0, f1, f2, f3⟩⟩⟩
  (fun B S hall => by
   rintro ⟨sl, rfl, h3, h4, h5, f0, f1, f2, f3⟩
   rw [hall 4 (by decide), hall 5 (by decide)]
   refine x_then ?_
   refine awp_weaken (S' := ⟨12, [(3, .a (.v (.pointer (some ⟨b3, 0, none⟩)))), (4, .a (.v (.pointer (some ⟨b4, 0, none⟩)))), (5, .a (.v (.pointer (some ⟨b5, 0, none⟩))))], [⟨b5, true, .box [.v (.int .i64 (min (bs : Int) 256))]⟩, ⟨b4, true, .box [.v (.int .i64 (min (vs : Int) 8))]⟩, ⟨b3, true, .box [encT t, .sl 3 (L.map St.cs), .v (.int .u64 (m))]⟩]⟩) ⟨rfl, (Slots.cons h3 (.refl _) (Slots.cons h4 (.refl _) (Slots.cons h5 (.refl _) Slots.nil))), (List.Sublist.refl _)⟩ ?_
   refine awp_seq ?_
   refine awp_region ?_
   refine awl_imp (imp_commit 0 5 rfl rfl rfl rfl) ?_
   refine awl_imp (imp_commit 0 4 rfl rfl rfl rfl) ?_
   refine awl_imp (imp_commit 0 3 rfl rfl (view_one t L m) rfl) ?_
   refine r_makeFunc rfl (.cons (.ev rfl rfl) (.cons (.ev rfl rfl) (.cons (.ev rfl rfl) .nil))) rfl ?_
   refine r_assign rfl rfl ?_
   refine awl_nil ?_
   refine x_then ?_
   refine awp_ret ?_
   exact ⟨(.inl rfl), _, [], (.one (by first | exact .mk rfl rfl | exact .nil rfl)), ⟨rfl, by show AV.fn _ [.cp [.v (.int .i64 (min (vs : Int) 8))], .cp [.v (.int .i64 (min (bs : Int) 256))], _] = _; rw [show min (vs : Int) 8 = (vs : Int) by omega, show min (bs : Int) 256 = (bs : Int) by omega]; rfl⟩, (List.nil_sublist _), (by simp)⟩)
set_option maxHeartbeats 1000000 in
theorem viewAll1_ok (t : TreeV) (x : List It) (hG : GoodT t x) (L : List St) (hL : L.length ≤ 1000) (m : Int) (vs bs : Nat) (hv : vs ≤ 8) (hb : bs ≤ 256) : IterS Try.prog 28 [.cp [.v (.int .i64 ((vs : Int)))], .cp [.v (.int .i64 ((bs : Int)))], .cp [encT t, .sl 3 (L.map St.cs), .v (.int .u64 (m))]] [] (evA (allV x L vs bs)) (fun xs => xs = (allV x L vs bs).map eA) := by
 intro l0 Cs J D hY wo hJ0
 refine awc_of_awpG Cs (so := Tr wo) (nt := 36) (fun S r => Result1 S [] r) Try.func28 rfl rfl rfl rfl (result1_run rfl) (fun w0 C0 hq hcs => ?_)
 refine awp_seq ?_
 refine awp_region ?_
 refine r_load1 rfl TV.agg3 rfl ?_
 refine r_move rfl rfl ?_
 refine awl_nil ?_
 refine x_then ?_
 refine awp_block ?_
 refine awp_loop (fun nn0 S => ∃ vol : Nat, ∃ wv : List OE, S = ⟨36, [(0, .a (.v (.func (.yield l0) #[] #[]))), (1, .a (.cp [.v (.int .i64 ((vs : Int)))])), (2, .a (.cp [.v (.int .i64 ((bs : Int)))])), (3, .a (.cp [encT t, .sl 3 (L.map St.cs), .v (.int .u64 (m))])), (9, .a (.v (.int .i64 ((vs : Int))))), (10, .a (.v (.int .i64 ((vol : Int)))))], Tr wv⟩ ∧ nn0 = vs - vol ∧ (vol ≤ vs) ∧ (J ((allV x L vol bs).map eA) wv)) (vs - (0)) ⟨36, [(0, .a (.v (.func (.yield l0) #[] #[]))), (1, .a (.cp [.v (.int .i64 ((vs : Int)))])), (2, .a (.cp [.v (.int .i64 ((bs : Int)))])), (3, .a (.cp [encT t, .sl 3 (L.map St.cs), .v (.int .u64 (m))])), (9, .a (.v (.int .i64 ((vs : Int))))), (10, .a (.v (.int .i64 (((0) : Int)))))], Tr (wo)⟩ ⟨rfl, (Slots.cons rfl (by first | exact .refl _ | exact .nilOwn _ _ | exact .nilSl _ | exact .ownSl _ _ _  | exact SV.le.of_eq (by simp)) (Slots.cons rfl (by first | exact .refl _ | exact .nilOwn _ _ | exact .nilSl _ | exact .ownSl _ _ _  | exact SV.le.of_eq (by simp)) (Slots.cons rfl (by first | exact .refl _ | exact .nilOwn _ _ | exact .nilSl _ | exact .ownSl _ _ _  | exact SV.le.of_eq (by simp)) (Slots.cons rfl (by first | exact .refl _ | exact .nilOwn _ _ | exact .nilSl _ | exact .ownSl _ _ _  | exact SV.le.of_eq (by simp)) (Slots.cons rfl (by first | exact .refl _ | exact .nilOwn _ _ | exact .nilSl _ | exact .ownSl _ _ _  | exact SV.le.of_eq (by simp)) (Slots.cons rfl (by first | exact .refl _ | exact .nilOwn _ _ | exact .nilSl _ | exact .ownSl _ _ _  | exact SV.le.of_eq (by simp)) Slots.nil)))))), (List.Sublist.refl _)⟩ ⟨0, wo, rfl, rfl, Nat.zero_le _, hJ0⟩ ?_
 rintro nn0 _ ⟨vol, wv, rfl, rfl, hvol, hJv⟩
 refine awp_seq ?_
 refine awp_region ?_
 refine r_cmp rfl rfl rfl rfl ?_
 refine awl_nil ?_
 refine x_then ?_
 refine awp_seq ?_
 refine awp_cond rfl (fun hc0 => ?_) (fun hc0 => ?_)
 ·
  have hlt : vol < vs := by have := of_decide_eq_true hc0; omega
  refine awp_skip ?_
  refine x_then ?_
  refine awp_seq ?_
  refine awp_block ?_
  refine awp_seq ?_
  refine awp_region ?_
  refine r_move rfl rfl ?_
  refine r_assign rfl rfl ?_
  refine awl_nil ?_
  refine x_then ?_
  refine awp_seq ?_
  refine awp_region ?_
  refine r_load1 rfl TV.agg3 rfl ?_
  refine r_move rfl rfl ?_
  refine awl_nil ?_
  refine x_then ?_
  refine awp_block ?_
  refine awp_loop (fun nn0 S => ∃ blk : Nat, ∃ wv2 : List OE, S = ⟨36, [(0, .a (.v (.func (.yield l0) #[] #[]))), (1, .a (.cp [.v (.int .i64 ((vs : Int)))])), (2, .a (.cp [.v (.int .i64 ((bs : Int)))])), (3, .a (.cp [encT t, .sl 3 (L.map St.cs), .v (.int .u64 (m))])), (5, .a (.v (.int .i64 ((vol : Int))))), (9, .a (.v (.int .i64 ((vs : Int))))), (10, .a (.v (.int .i64 ((vol : Int))))), (13, .a (.v (.int .i64 ((bs : Int))))), (14, .a (.v (.int .i64 ((blk : Int)))))], Tr wv2⟩ ∧ nn0 = bs - blk ∧ (blk ≤ bs) ∧ (J ((allV x L vol bs ++ rowV x L vol blk).map eA) wv2)) (bs - (0)) ⟨36, [(0, .a (.v (.func (.yield l0) #[] #[]))), (1, .a (.cp [.v (.int .i64 ((vs : Int)))])), (2, .a (.cp [.v (.int .i64 ((bs : Int)))])), (3, .a (.cp [encT t, .sl 3 (L.map St.cs), .v (.int .u64 (m))])), (5, .a (.v (.int .i64 ((vol : Int))))), (9, .a (.v (.int .i64 ((vs : Int))))), (10, .a (.v (.int .i64 ((vol : Int))))), (13, .a (.v (.int .i64 ((bs : Int))))), (14, .a (.v (.int .i64 (((0) : Int)))))], Tr (wv)⟩ ⟨rfl, (Slots.cons rfl (by first | exact .refl _ | exact .nilOwn _ _ | exact .nilSl _ | exact .ownSl _ _ _  | exact SV.le.of_eq (by simp)) (Slots.cons rfl (by first | exact .refl _ | exact .nilOwn _ _ | exact .nilSl _ | exact .ownSl _ _ _  | exact SV.le.of_eq (by simp)) (Slots.cons rfl (by first | exact .refl _ | exact .nilOwn _ _ | exact .nilSl _ | exact .ownSl _ _ _  | exact SV.le.of_eq (by simp)) (Slots.cons rfl (by first | exact .refl _ | exact .nilOwn _ _ | exact .nilSl _ | exact .ownSl _ _ _  | exact SV.le.of_eq (by simp)) (Slots.cons rfl (by first | exact .refl _ | exact .nilOwn _ _ | exact .nilSl _ | exact .ownSl _ _ _  | exact SV.le.of_eq (by simp)) (Slots.cons rfl (by first | exact .refl _ | exact .nilOwn _ _ | exact .nilSl _ | exact .ownSl _ _ _  | exact SV.le.of_eq (by simp)) (Slots.cons rfl (by first | exact .refl _ | exact .nilOwn _ _ | exact .nilSl _ | exact .ownSl _ _ _  | exact SV.le.of_eq (by simp)) (Slots.cons rfl (by first | exact .refl _ | exact .nilOwn _ _ | exact .nilSl _ | exact .ownSl _ _ _  | exact SV.le.of_eq (by simp)) (Slots.cons rfl (by first | exact .refl _ | exact .nilOwn _ _ | exact .nilSl _ | exact .ownSl _ _ _  | exact SV.le.of_eq (by simp)) Slots.nil))))))))), (List.Sublist.refl _)⟩ ⟨0, wv, rfl, rfl, Nat.zero_le _, (by show J ((allV x L vol bs ++ rowV x L vol 0).map eA) wv; rw [show rowV x L vol 0 = [] from rfl, List.append_nil]; exact hJv)⟩ ?_
  rintro nn0 _ ⟨blk, wv2, rfl, rfl, hblk, hJb⟩
  refine awp_seq ?_
  refine awp_region ?_
  refine r_cmp rfl rfl rfl rfl ?_
  refine awl_nil ?_
  refine x_then ?_
  refine awp_seq ?_
  refine awp_cond rfl (fun hc1 => ?_) (fun hc1 => ?_)
  ·
   have hlt2 : blk < bs := by have := of_decide_eq_true hc1; omega
   refine awp_skip ?_
   refine x_then ?_
   refine awp_seq ?_
   refine awp_block ?_
   refine awp_seq ?_
   refine awp_region ?_
   refine r_move rfl rfl ?_
   refine r_assign rfl rfl ?_
   refine awl_nil ?_
   refine x_then ?_
   refine awp_seq ?_
   refine awp_region ?_
   refine r_loadA rfl TV.agg33 TV.sz33 rfl rfl ?_
   refine r_move rfl rfl ?_
   refine r_move rfl rfl ?_
   refine r_call0 hq rfl rfl (.cons (.ev rfl rfl) (.cons (.ev rfl rfl) (.cons (.ev rfl rfl) .nil))) (viewNum_ok t x hG L hL m vol blk) rfl TV.en11 rfl (fun r hr => ?_)
   obtain rfl := hr
   refine r_move rfl rfl ?_
   refine r_extract rfl rfl rfl ?_
   refine r_extract rfl rfl rfl ?_
   refine r_assign rfl rfl ?_
   refine r_assign rfl rfl ?_
   refine awl_nil ?_
   refine x_then ?_
   refine awp_seq ?_
   refine awp_regionI ?_
   refine awli_op (fun c h => (by cases h)) ?_
   refine r_move rfl rfl ?_
   refine awl_nil ⟨rfl, ?_⟩
   refine awli_op (fun c h => (by cases h)) ?_
   refine r_move rfl rfl ?_
   refine awl_nil ⟨rfl, ?_⟩
   refine gi_cases (t' := 25) rfl (fun hg25 => ?_) (fun hg25 => ?_)
   ·
    obtain ⟨v, hnv⟩ := Option.isSome_iff_exists.1 (show (numV x L vol blk).isSome = true from hg25)
    have hev : entV x L vol blk = some ⟨vol, blk, v⟩ := by unfold entV; rw [hnv]; rfl
    have hrs := rowV_succ x L vol blk
    rw [hev] at hrs
    obtain ⟨rst, hrst⟩ := all_split x L hlt hlt2 hev
    rw [hnv] at hg25 ⊢
    refine gi_run rfl rfl hg25 ?_
    refine awli_op (fun c h => (by cases h)) ?_
    refine r_move rfl rfl ?_
    refine awl_nil ⟨rfl, ?_⟩
    refine gi_run rfl rfl hg25 ?_
    refine awli_op (fun c h => (by cases h)) ?_
    refine r_move rfl rfl ?_
    refine awl_nil ⟨rfl, ?_⟩
    refine gi_run rfl rfl hg25 ?_
    refine awli_op (fun c h => (by cases h)) ?_
    refine r_move rfl rfl ?_
    refine awl_nil ⟨rfl, ?_⟩
    refine gi_run rfl rfl hg25 ?_
    refine awli_op (fun c h => (by cases h)) ?_
    refine r_move rfl rfl ?_
    refine awl_nil ⟨rfl, ?_⟩
    refine gi_run rfl rfl hg25 ?_
    refine awli_op (fun c h => (by cases h)) ?_
    refine r_build (parts := [(0, .tmp 27), (1, .tmp 28), (2, .tmp 29)]) rfl TV.pl57 TV.zero57 rfl rfl rfl ?_
    refine awl_nil ⟨rfl, ?_⟩
    refine gi_run rfl rfl hg25 ?_
    refine r_yieldSI hq (un := []) (fun n => Tr n) rfl rfl (.cons (.ev rfl rfl) .nil) Cs hcs (hY _ (eA ⟨vol, blk, v⟩) wv2 hJb (evA_at hrst)) (by rw [List.append_nil]; exact List.Perm.refl _) (fun n => by rw [List.append_nil]) rfl (fun bb nobjs hJ' => ?_)
    refine gi_run rfl rfl hg25 ?_
    refine awli_op (fun c h => (by cases h)) ?_
    refine r_not rfl rfl ?_
    refine awl_nil ⟨rfl, ?_⟩
    refine awli_op (fun c h => (by cases h)) ?_
    refine r_pickT rfl hg25 rfl rfl ?_
    refine awl_nil ⟨rfl, ?_⟩
    refine awli_nil ?_
    refine x_then ?_
    refine awp_cond rfl (fun hc2 => ?_) (fun hc2 => ?_)
    ·
     have hbb : bb = false := by simpa using hc2
     subst hbb
     have hD2 : D _ _ := hJ'
     refine awp_ret ?_
     refine x_blockR ?_
     refine x_thenR ?_
     refine x_thenR ?_
     refine x_blockR ?_
     refine x_blockR ?_
     refine x_thenR ?_
     refine x_thenR ?_
     refine x_blockR ?_
     exact ⟨(.inl rfl), _, Tr nobjs, .none, ⟨_, nobjs, rfl, .inr hD2⟩, (List.Sublist.refl _), tr_rw⟩
    ·
     have hbb : bb = true := by simpa using hc2
     subst hbb
     have hJ2 : J _ _ := hJ'
     refine awp_skip ?_
     refine x_block ?_
     refine x_then ?_
     refine awp_region ?_
     refine r_ari _ rfl rfl rfl (wrap_id (by first | omega | (simp; omega))) rfl ?_
     refine r_move rfl rfl ?_
     refine awl_nil ?_
     refine x_then ?_
     refine ⟨bs - (blk + 1), ⟨36, [(0, .a (.v (.func (.yield l0) #[] #[]))), (1, .a (.cp [.v (.int .i64 ((vs : Int)))])), (2, .a (.cp [.v (.int .i64 ((bs : Int)))])), (3, .a (.cp [encT t, .sl 3 (L.map St.cs), .v (.int .u64 (m))])), (5, .a (.v (.int .i64 ((vol : Int))))), (9, .a (.v (.int .i64 ((vs : Int))))), (10, .a (.v (.int .i64 ((vol : Int))))), (13, .a (.v (.int .i64 ((bs : Int))))), (14, .a (.v (.int .i64 (((blk + 1) : Int)))))], Tr (nobjs)⟩, ⟨rfl, (Slots.cons rfl (by first | exact .refl _ | exact .nilOwn _ _ | exact .nilSl _ | exact .ownSl _ _ _  | exact SV.le.of_eq (by simp)) (Slots.cons rfl (by first | exact .refl _ | exact .nilOwn _ _ | exact .nilSl _ | exact .ownSl _ _ _  | exact SV.le.of_eq (by simp)) (Slots.cons rfl (by first | exact .refl _ | exact .nilOwn _ _ | exact .nilSl _ | exact .ownSl _ _ _  | exact SV.le.of_eq (by simp)) (Slots.cons rfl (by first | exact .refl _ | exact .nilOwn _ _ | exact .nilSl _ | exact .ownSl _ _ _  | exact SV.le.of_eq (by simp)) (Slots.cons rfl (by first | exact .refl _ | exact .nilOwn _ _ | exact .nilSl _ | exact .ownSl _ _ _  | exact SV.le.of_eq (by simp)) (Slots.cons rfl (by first | exact .refl _ | exact .nilOwn _ _ | exact .nilSl _ | exact .ownSl _ _ _  | exact SV.le.of_eq (by simp)) (Slots.cons rfl (by first | exact .refl _ | exact .nilOwn _ _ | exact .nilSl _ | exact .ownSl _ _ _  | exact SV.le.of_eq (by simp)) (Slots.cons rfl (by first | exact .refl _ | exact .nilOwn _ _ | exact .nilSl _ | exact .ownSl _ _ _  | exact SV.le.of_eq (by simp)) (Slots.cons rfl (by first | exact .refl _ | exact .nilOwn _ _ | exact .nilSl _ | exact .ownSl _ _ _  | exact SV.le.of_eq (by simp)) Slots.nil))))))))), (List.Sublist.refl _)⟩, (by omega), ⟨blk + 1, nobjs, rfl, rfl, (by omega), (by rw [hrs]; simp only [Option.toList_some]; rw [← List.append_assoc, List.map_append]; exact hJ2)⟩⟩
   ·
    have hnv : numV x L vol blk = none := by cases h : numV x L vol blk with | none => rfl | some v => rw [h] at hg25; cases hg25
    have hrs := rowV_succ x L vol blk
    rw [show entV x L vol blk = none by unfold entV; rw [hnv]; rfl] at hrs
    refine gi_skip rfl rfl hg25 rfl ?_
    refine gi_skip rfl rfl hg25 rfl ?_
    refine gi_skip rfl rfl hg25 rfl ?_
    refine gi_skip rfl rfl hg25 rfl ?_
    refine gi_skip rfl rfl hg25 rfl ?_
    refine gi_skip rfl rfl hg25 rfl ?_
    refine gi_skip rfl rfl hg25 rfl ?_
    refine awli_op (fun c h => (by cases h)) ?_
    refine r_pickF rfl hg25 rfl rfl ?_
    refine awl_nil ⟨rfl, ?_⟩
    refine awli_nil ?_
    refine x_then ?_
    refine awp_condF rfl ?_
    refine awp_skip ?_
    refine x_block ?_
    refine x_then ?_
    refine awp_region ?_
    refine r_ari _ rfl rfl rfl (wrap_id (by first | omega | (simp; omega))) rfl ?_
    refine r_move rfl rfl ?_
    refine awl_nil ?_
    refine x_then ?_
    refine ⟨bs - (blk + 1), ⟨36, [(0, .a (.v (.func (.yield l0) #[] #[]))), (1, .a (.cp [.v (.int .i64 ((vs : Int)))])), (2, .a (.cp [.v (.int .i64 ((bs : Int)))])), (3, .a (.cp [encT t, .sl 3 (L.map St.cs), .v (.int .u64 (m))])), (5, .a (.v (.int .i64 ((vol : Int))))), (9, .a (.v (.int .i64 ((vs : Int))))), (10, .a (.v (.int .i64 ((vol : Int))))), (13, .a (.v (.int .i64 ((bs : Int))))), (14, .a (.v (.int .i64 (((blk + 1) : Int)))))], Tr (wv2)⟩, ⟨rfl, (Slots.cons rfl (by first | exact .refl _ | exact .nilOwn _ _ | exact .nilSl _ | exact .ownSl _ _ _  | exact SV.le.of_eq (by simp)) (Slots.cons rfl (by first | exact .refl _ | exact .nilOwn _ _ | exact .nilSl _ | exact .ownSl _ _ _  | exact SV.le.of_eq (by simp)) (Slots.cons rfl (by first | exact .refl _ | exact .nilOwn _ _ | exact .nilSl _ | exact .ownSl _ _ _  | exact SV.le.of_eq (by simp)) (Slots.cons rfl (by first | exact .refl _ | exact .nilOwn _ _ | exact .nilSl _ | exact .ownSl _ _ _  | exact SV.le.of_eq (by simp)) (Slots.cons rfl (by first | exact .refl _ | exact .nilOwn _ _ | exact .nilSl _ | exact .ownSl _ _ _  | exact SV.le.of_eq (by simp)) (Slots.cons rfl (by first | exact .refl _ | exact .nilOwn _ _ | exact .nilSl _ | exact .ownSl _ _ _  | exact SV.le.of_eq (by simp)) (Slots.cons rfl (by first | exact .refl _ | exact .nilOwn _ _ | exact .nilSl _ | exact .ownSl _ _ _  | exact SV.le.of_eq (by simp)) (Slots.cons rfl (by first | exact .refl _ | exact .nilOwn _ _ | exact .nilSl _ | exact .ownSl _ _ _  | exact SV.le.of_eq (by simp)) (Slots.cons rfl (by first | exact .refl _ | exact .nilOwn _ _ | exact .nilSl _ | exact .ownSl _ _ _  | exact SV.le.of_eq (by simp)) Slots.nil))))))))), (List.Sublist.refl _)⟩, (by omega), ⟨blk + 1, wv2, rfl, rfl, (by omega), (by rw [hrs]; simp only [Option.toList_none, List.append_nil]; exact hJb)⟩⟩
  ·
   have hge2 : bs ≤ blk := by have := of_decide_eq_false hc1; omega
   have hbe : blk = bs := by omega
   rw [hbe] at hJb
   refine awp_exit ?_
   refine x_thenE ?_
   refine x_thenE ?_
   refine x_blockE ?_
   refine x_block ?_
   refine x_then ?_
   refine awp_region ?_
   refine r_ari _ rfl rfl rfl (wrap_id (by first | omega | (simp; omega))) rfl ?_
   refine r_move rfl rfl ?_
   refine awl_nil ?_
   refine x_then ?_
   refine ⟨vs - (vol + 1), ⟨36, [(0, .a (.v (.func (.yield l0) #[] #[]))), (1, .a (.cp [.v (.int .i64 ((vs : Int)))])), (2, .a (.cp [.v (.int .i64 ((bs : Int)))])), (3, .a (.cp [encT t, .sl 3 (L.map St.cs), .v (.int .u64 (m))])), (9, .a (.v (.int .i64 ((vs : Int))))), (10, .a (.v (.int .i64 (((vol + 1) : Int)))))], Tr (wv2)⟩, ⟨rfl, (Slots.cons rfl (by first | exact .refl _ | exact .nilOwn _ _ | exact .nilSl _ | exact .ownSl _ _ _  | exact SV.le.of_eq (by simp)) (Slots.cons rfl (by first | exact .refl _ | exact .nilOwn _ _ | exact .nilSl _ | exact .ownSl _ _ _  | exact SV.le.of_eq (by simp)) (Slots.cons rfl (by first | exact .refl _ | exact .nilOwn _ _ | exact .nilSl _ | exact .ownSl _ _ _  | exact SV.le.of_eq (by simp)) (Slots.cons rfl (by first | exact .refl _ | exact .nilOwn _ _ | exact .nilSl _ | exact .ownSl _ _ _  | exact SV.le.of_eq (by simp)) (Slots.cons rfl (by first | exact .refl _ | exact .nilOwn _ _ | exact .nilSl _ | exact .ownSl _ _ _  | exact SV.le.of_eq (by simp)) (Slots.cons rfl (by first | exact .refl _ | exact .nilOwn _ _ | exact .nilSl _ | exact .ownSl _ _ _  | exact SV.le.of_eq (by simp)) Slots.nil)))))), (List.Sublist.refl _)⟩, (by omega), ⟨vol + 1, wv2, rfl, rfl, (by omega), (by rw [allV_succ]; exact hJb)⟩⟩
 ·
  have hge : vs ≤ vol := by have := of_decide_eq_false hc0; omega
  have hve : vol = vs := by omega
  rw [hve] at hJv
  refine awp_exit ?_
  refine x_thenE ?_
  refine x_thenE ?_
  refine x_blockE ?_
  exact ⟨(.inr rfl), _, Tr wv, .none, ⟨_, wv, rfl, .inl ⟨rfl, hJv⟩⟩, (List.Sublist.refl _), tr_rw⟩
end Go.Proofs.Ytpkodkoooaldlaa.A
namespace Go.Proofs.Ytpkodkoooaldlaa.A
open Go Go.RowKit
set_option linter.unusedVariables false
set_option linter.unusedSimpArgs false
set_option maxRecDepth 100000
theorem TD.en76 : entersT Try.prog 76 := enters_of Try.func76 (by kernel_rfl) (by kernel_rfl)
theorem TD.sl123 : sliceT Try.prog 123 = some 3 := by kernel_rfl
theorem TD.sz3 : szT Try.prog 3 = some 1 := by kernel_rfl
theorem TD.agg3 : aggT Try.prog 3 = some false := by kernel_rfl
theorem TD.en63 : entersT Try.prog 63 := enters_of Try.func63 (by kernel_rfl) (by kernel_rfl)
theorem TD.mixed : Try.prog.follows .mixedOrders = true := by kernel_rfl
theorem TD.un90 : Try.prog.underlying 90 = some (.array 2 3) := by kernel_rfl
theorem TD.en48 : entersT Try.prog 48 := enters_of Try.func48 (by kernel_rfl) (by kernel_rfl)
theorem nan_ok (x : Int) : ACq Try.prog 76 [.v (.int .i64 x)] [] (fun r n => n = [] ∧ r = bA false) := by
 refine acq_of_awp (rs := [2]) (nt := 6) Try.func76 rfl rfl rfl rfl (fun w0 C0 hq => ?_)
 refine awp_seq ?_
 refine awp_region ?_
 refine r_assign rfl rfl ?_
 refine awl_nil ?_
 refine x_then ?_
 refine awp_seq ?_
 refine awp_region ?_
 refine r_move rfl rfl ?_
 refine r_move rfl rfl ?_
 refine r_cmp rfl rfl rfl rfl ?_
 refine r_assign rfl rfl ?_
 refine awl_nil ?_
 refine x_then ?_
 refine awp_ret ?_
 exact ⟨(.inl rfl), _, [], (.one (by first | exact .mk rfl rfl | exact .nil rfl)), ⟨rfl, by simp [bA, SV.av]⟩, (List.nil_sublist _), (by simp)⟩
theorem cmp_ok (x y : Int) : ACq Try.prog 63 [.v (.int .i64 x), .v (.int .i64 y)] [] (fun r n => n = [] ∧ r = .v (.int .i64 (cmpI x y))) := by
 refine acq_of_awp (rs := [4]) (nt := 20) Try.func63 rfl rfl rfl rfl (fun w0 C0 hq => ?_)
 refine awp_seq ?_
 refine awp_region ?_
 refine r_assign rfl rfl ?_
 refine awl_nil ?_
 refine x_then ?_
 refine awp_seq ?_
 refine awp_region ?_
 refine r_move rfl rfl ?_
 refine r_callq0 rfl rfl (.cons (.ev rfl rfl) .nil) (nan_ok x) rfl TD.en76 rfl (fun r hr => ?_)
 obtain rfl := hr
 refine r_assign rfl rfl ?_
 refine awl_nil ?_
 refine x_then ?_
 refine awp_seq ?_
 refine awp_region ?_
 refine r_move rfl rfl ?_
 refine r_callq0 rfl rfl (.cons (.ev rfl rfl) .nil) (nan_ok y) rfl TD.en76 rfl (fun r hr => ?_)
 obtain rfl := hr
 refine r_assign rfl rfl ?_
 refine awl_nil ?_
 refine x_then ?_
 refine awp_seq ?_
 refine awp_seq ?_
 refine awp_region ?_
 refine r_move rfl rfl ?_
 refine awl_nil ?_
 refine x_then ?_
 refine awp_cond rfl (fun hc0 => ?_) (fun hc0 => ?_)
 ·
  exfalso; cases hc0
 ·
  refine awp_skip ?_
  refine x_then ?_
  refine awp_seq ?_
  refine awp_seq ?_
  refine awp_region ?_
  refine r_move rfl rfl ?_
  refine awl_nil ?_
  refine x_then ?_
  refine awp_cond rfl (fun hc2 => ?_) (fun hc2 => ?_)
  ·
   exfalso; cases hc2
  ·
   refine awp_skip ?_
   refine x_then ?_
   refine awp_seq ?_
   refine awp_seq ?_
   refine awp_region ?_
   refine r_move rfl rfl ?_
   refine r_move rfl rfl ?_
   refine r_cmp rfl rfl rfl rfl ?_
   refine awl_nil ?_
   refine x_then ?_
   refine awp_cond rfl (fun hc3 => ?_) (fun hc3 => ?_)
   ·
    have h3 := of_decide_eq_true hc3
    refine awp_seq ?_
    refine awp_region ?_
    refine r_assign rfl rfl ?_
    refine awl_nil ?_
    refine x_then ?_
    refine awp_ret ?_
    refine x_thenR ?_
    exact ⟨(.inl rfl), _, [], (.one (by first | exact .mk rfl rfl | exact .nil rfl)), ⟨rfl, by simp [cmpI, SV.av, *]⟩, (List.nil_sublist _), (by simp)⟩
   ·
    have h3 := of_decide_eq_false hc3
    refine awp_skip ?_
    refine x_then ?_
    refine awp_seq ?_
    refine awp_seq ?_
    refine awp_region ?_
    refine r_move rfl rfl ?_
    refine r_move rfl rfl ?_
    refine r_cmp rfl rfl rfl rfl ?_
    refine awl_nil ?_
    refine x_then ?_
    refine awp_cond rfl (fun hc4 => ?_) (fun hc4 => ?_)
    ·
     have h4 := of_decide_eq_true hc4
     refine awp_seq ?_
     refine awp_region ?_
     refine r_assign rfl rfl ?_
     refine awl_nil ?_
     refine x_then ?_
     refine awp_ret ?_
     refine x_thenR ?_
     exact ⟨(.inl rfl), _, [], (.one (by first | exact .mk rfl rfl | exact .nil rfl)), ⟨rfl, by simp [cmpI, SV.av, *]⟩, (List.nil_sublist _), (by simp)⟩
    ·
     have h4 := of_decide_eq_false hc4
     refine awp_skip ?_
     refine x_then ?_
     refine awp_seq ?_
     refine awp_region ?_
     refine r_assign rfl rfl ?_
     refine awl_nil ?_
     refine x_then ?_
     refine awp_ret ?_
     exact ⟨(.inl rfl), _, [], (.one (by first | exact .mk rfl rfl | exact .nil rfl)), ⟨rfl, by simp [cmpI, SV.av, *]⟩, (List.nil_sublist _), (by simp)⟩
def cmpL : List Int → List Int → Int
  | [], [] => 0
  | [], _ :: _ => -1
  | _ :: _, [] => 1
  | x :: xs, y :: ys => if cmpI x y ≠ 0 then cmpI x y else cmpL xs ys
theorem drop_at {l : List Int} {k : Nat} {x : Int} (h : l[k]? = some x) : l.drop k = x :: l.drop (k + 1) := by
  obtain ⟨hk, rfl⟩ := List.getElem?_eq_some_iff.1 h
  exact List.drop_eq_getElem_cons hk
theorem cmpL_at {l m : List Int} {k : Nat} {x y : Int} (hx : l[k]? = some x) (hy : m[k]? = some y) : cmpL (l.drop k) (m.drop k) = if cmpI x y ≠ 0 then cmpI x y else cmpL (l.drop (k + 1)) (m.drop (k + 1)) := by
  rw [drop_at hx, drop_at hy]; rfl
theorem cmpL_long {l m : List Int} {k : Nat} {x : Int} (hx : l[k]? = some x) (hy : m.length ≤ k) : cmpL (l.drop k) (m.drop k) = 1 := by
  rw [drop_at hx, List.drop_eq_nil_of_le hy]; rfl
theorem cmpL_end {l m : List Int} {k : Nat} (hx : l.length ≤ k) : cmpL (l.drop k) (m.drop k) = if k < m.length then -1 else 0 := by
  rw [List.drop_eq_nil_of_le hx]
  by_cases h : k < m.length
  · rw [if_pos h, List.drop_eq_getElem_cons h]; rfl
  · rw [if_neg h, List.drop_eq_nil_of_le (by omega)]; rfl
theorem cmpL_two (a b : PL) : cmpL [a.1, a.2] [b.1, b.2] = cmpP a b := by
  unfold cmpP
  by_cases h : cmpI a.1 b.1 = 0
  · by_cases h2 : cmpI a.2 b.2 = 0
    · simp [cmpL, h, h2]
    · simp [cmpL, h, h2]
  · simp [cmpL, h]
theorem keyPD : KeyEnc Try.prog 90 ekP := keyEnc_arr (fun p : PL => [p.1, p.2]) (fun a b h => by simp at h; exact Prod.ext h.1 h.2) (q := .i64) (n := 2) (e := 3) (by kernel_rfl) (by kernel_rfl) (by kernel_rfl) (by kernel_rfl) (by kernel_rfl) (by kernel_rfl) (fun _ => rfl)
theorem compare_ok (l m : List Int) (hl : l.length ≤ 1000000) (hm : m.length ≤ 1000000) : ACq Try.prog 48 [.sl 1 (l.map fun x => [AV.v (.int .i64 x)]), .sl 1 (m.map fun x => [AV.v (.int .i64 x)])] [] (fun r n => n = [] ∧ r = .v (.int .i64 (cmpL l m))) := by
 refine acq_of_awp (rs := [4]) (nt := 36) Try.func48 rfl rfl rfl rfl (fun w0 C0 hq => ?_)
 refine awp_seq ?_
 refine awp_region ?_
 refine r_assign rfl rfl ?_
 refine awl_nil ?_
 refine x_then ?_
 refine awp_seq ?_
 refine awp_seq ?_
 refine awp_region ?_
 refine r_move rfl rfl ?_
 first | (refine r_lenS rfl rfl TD.sl123 rfl ?_) | (refine r_lenNil rfl TD.sl123 rfl ?_) | (refine r_lenV rfl TD.sl123 rfl ?_)
 refine r_move rfl rfl ?_
 refine awl_nil ?_
 refine x_then ?_
 refine awp_block ?_
 refine awp_loop (fun nn0 S => ∃ k : Nat, S = ⟨36, [(0, .a (.sl 1 (l.map fun x => [AV.v (.int .i64 x)]))), (1, .a (.sl 1 (m.map fun x => [AV.v (.int .i64 x)]))), (9, .a (.sl 1 (l.map fun x => [AV.v (.int .i64 x)]))), (10, .a (.v (.int .i64 ((l.map fun x => [AV.v (.int .i64 x)]).length)))), (11, .a (.v (.int .i64 ((k : Int)))))], []⟩ ∧ nn0 = l.length - k ∧ (k ≤ l.length) ∧ (cmpL l m = cmpL (l.drop k) (m.drop k))) (l.length - (0)) ⟨36, [(0, .a (.sl 1 (l.map fun x => [AV.v (.int .i64 x)]))), (1, .a (.sl 1 (m.map fun x => [AV.v (.int .i64 x)]))), (9, .a (.sl 1 (l.map fun x => [AV.v (.int .i64 x)]))), (10, .a (.v (.int .i64 ((l.map fun x => [AV.v (.int .i64 x)]).length)))), (11, .a (.v (.int .i64 (((0) : Int)))))], []⟩ ⟨rfl, (Slots.cons rfl (by first | exact .refl _ | exact .nilOwn _ _ | exact .nilSl _ | exact .ownSl _ _ _  | exact SV.le.of_eq (by simp)) (Slots.cons rfl (by first | exact .refl _ | exact .nilOwn _ _ | exact .nilSl _ | exact .ownSl _ _ _  | exact SV.le.of_eq (by simp)) (Slots.cons rfl (by first | exact .refl _ | exact .nilOwn _ _ | exact .nilSl _ | exact .ownSl _ _ _  | exact SV.le.of_eq (by simp)) (Slots.cons rfl (by first | exact .refl _ | exact .nilOwn _ _ | exact .nilSl _ | exact .ownSl _ _ _  | exact SV.le.of_eq (by simp)) (Slots.cons rfl (by first | exact .refl _ | exact .nilOwn _ _ | exact .nilSl _ | exact .ownSl _ _ _  | exact SV.le.of_eq (by simp)) Slots.nil))))), (by first | exact List.Sublist.refl _ | exact .cons_cons _ (.cons _ (.refl _)) | exact List.nil_sublist _ | exact .cons _ (.refl _) | exact .cons _ (.cons _ (.refl _)) | exact .cons _ (.cons _ (.cons _ (.refl _))) | exact .cons _ (.cons _ (.cons _ (.cons _ (.refl _)))) | exact .cons_cons _ (List.nil_sublist _))⟩ ⟨0, rfl, rfl, Nat.zero_le _, rfl⟩ ?_
 rintro nn0 _ ⟨k, rfl, rfl, hk, he⟩
 refine awp_seq ?_
 refine awp_region ?_
 refine r_cmp rfl rfl rfl rfl ?_
 refine awl_nil ?_
 refine x_then ?_
 refine awp_seq ?_
 refine awp_cond rfl (fun hc0 => ?_) (fun hc0 => ?_)
 ·
  have hltx : k < l.length := by have := of_decide_eq_true hc0; simpa using this
  obtain ⟨x, hx⟩ := get_lt hltx
  refine awp_skip ?_
  refine x_then ?_
  refine awp_seq ?_
  refine awp_block ?_
  refine awp_seq ?_
  refine awp_region ?_
  refine r_move rfl rfl ?_
  refine r_index rfl rfl rfl TD.sl123 TD.sz3 (by omega) (get_map hx) rfl ?_
  refine r_load1 rfl TD.agg3 rfl ?_
  refine r_assign rfl rfl ?_
  refine r_assign rfl rfl ?_
  refine awl_nil ?_
  refine x_then ?_
  refine awp_seq ?_
  refine awp_seq ?_
  refine awp_region ?_
  refine r_move rfl rfl ?_
  refine r_move rfl rfl ?_
  first | (refine r_lenS rfl rfl TD.sl123 rfl ?_) | (refine r_lenNil rfl TD.sl123 rfl ?_) | (refine r_lenV rfl TD.sl123 rfl ?_)
  refine r_cmp rfl rfl rfl rfl ?_
  refine awl_nil ?_
  refine x_then ?_
  refine awp_cond rfl (fun hc1 => ?_) (fun hc1 => ?_)
  ·
   have hge : m.length ≤ k := by have := of_decide_eq_true hc1; simp at this; omega
   rw [cmpL_long hx hge] at he
   refine awp_seq ?_
   refine awp_region ?_
   refine r_assign rfl rfl ?_
   refine awl_nil ?_
   refine x_then ?_
   refine awp_ret ?_
   refine x_thenR ?_
   refine x_blockR ?_
   refine x_thenR ?_
   refine x_thenR ?_
   refine x_blockR ?_
   refine x_thenR ?_
   exact ⟨(.inl rfl), _, [], (.one (by first | exact .mk rfl rfl | exact .nil rfl)), ⟨rfl, by rw [he]; rfl⟩, (List.nil_sublist _), (by simp)⟩
  ·
   have hlty : k < m.length := by have := of_decide_eq_false hc1; simp at this; omega
   obtain ⟨y, hy⟩ := get_lt hlty
   refine awp_skip ?_
   refine x_then ?_
   refine awp_seq ?_
   refine awp_region ?_
   refine r_move rfl rfl ?_
   refine r_move rfl rfl ?_
   refine r_index rfl rfl rfl TD.sl123 TD.sz3 (by omega) (get_map hy) rfl ?_
   refine r_load1 rfl TD.agg3 rfl ?_
   refine r_assign rfl rfl ?_
   refine awl_nil ?_
   refine x_then ?_
   refine awp_seq ?_
   refine awp_region ?_
   refine r_move rfl rfl ?_
   refine r_move rfl rfl ?_
   refine r_callq0 rfl rfl (.cons (.ev rfl rfl) (.cons (.ev rfl rfl) .nil)) (cmp_ok x y) rfl TD.en63 rfl (fun r hr => ?_)
   obtain rfl := hr
   refine r_assign rfl rfl ?_
   refine awl_nil ?_
   refine x_then ?_
   refine awp_seq ?_
   refine awp_region ?_
   refine r_move rfl rfl ?_
   refine r_cmp rfl rfl rfl rfl ?_
   refine awl_nil ?_
   refine x_then ?_
   refine awp_cond rfl (fun hc2 => ?_) (fun hc2 => ?_)
   ·
    have h2 : ¬ cmpI x y = 0 := by simpa using hc2
    rw [cmpL_at hx hy, if_pos (by simpa using h2)] at he
    refine awp_seq ?_
    refine awp_region ?_
    refine r_move rfl rfl ?_
    refine r_assign rfl rfl ?_
    refine awl_nil ?_
    refine x_then ?_
    refine awp_ret ?_
    refine x_blockR ?_
    refine x_thenR ?_
    refine x_thenR ?_
    refine x_blockR ?_
    refine x_thenR ?_
    exact ⟨(.inl rfl), _, [], (.one (by first | exact .mk rfl rfl | exact .nil rfl)), ⟨rfl, by rw [he]; rfl⟩, (List.nil_sublist _), (by simp)⟩
   ·
    have h2 : cmpI x y = 0 := by simpa using hc2
    refine awp_skip ?_
    refine x_block ?_
    refine x_then ?_
    refine awp_region ?_
    refine r_ari _ rfl rfl rfl (wrap_id (by first | omega | (simp; omega))) rfl ?_
    refine r_move rfl rfl ?_
    refine awl_nil ?_
    refine x_then ?_
    refine ⟨l.length - (k + 1), ⟨36, [(0, .a (.sl 1 (l.map fun x => [AV.v (.int .i64 x)]))), (1, .a (.sl 1 (m.map fun x => [AV.v (.int .i64 x)]))), (9, .a (.sl 1 (l.map fun x => [AV.v (.int .i64 x)]))), (10, .a (.v (.int .i64 ((l.map fun x => [AV.v (.int .i64 x)]).length)))), (11, .a (.v (.int .i64 (((k + 1) : Int)))))], []⟩, ⟨rfl, (Slots.cons rfl (by first | exact .refl _ | exact .nilOwn _ _ | exact .nilSl _ | exact .ownSl _ _ _  | exact SV.le.of_eq (by simp)) (Slots.cons rfl (by first | exact .refl _ | exact .nilOwn _ _ | exact .nilSl _ | exact .ownSl _ _ _  | exact SV.le.of_eq (by simp)) (Slots.cons rfl (by first | exact .refl _ | exact .nilOwn _ _ | exact .nilSl _ | exact .ownSl _ _ _  | exact SV.le.of_eq (by simp)) (Slots.cons rfl (by first | exact .refl _ | exact .nilOwn _ _ | exact .nilSl _ | exact .ownSl _ _ _  | exact SV.le.of_eq (by simp)) (Slots.cons rfl (by first | exact .refl _ | exact .nilOwn _ _ | exact .nilSl _ | exact .ownSl _ _ _  | exact SV.le.of_eq (by simp)) Slots.nil))))), (by first | exact List.Sublist.refl _ | exact .cons_cons _ (.cons _ (.refl _)) | exact List.nil_sublist _ | exact .cons _ (.refl _) | exact .cons _ (.cons _ (.refl _)) | exact .cons _ (.cons _ (.cons _ (.refl _))) | exact .cons _ (.cons _ (.cons _ (.cons _ (.refl _)))) | exact .cons_cons _ (List.nil_sublist _))⟩, (by omega), ⟨k + 1, rfl, rfl, (by omega), (by rw [he, cmpL_at hx hy, if_neg (by simpa using h2)])⟩⟩
 ·
  have hge : l.length ≤ k := by have := of_decide_eq_false hc0; simp at this; omega
  rw [cmpL_end hge] at he
  refine awp_exit ?_
  refine x_thenE ?_
  refine x_thenE ?_
  refine x_blockE ?_
  refine x_then ?_
  refine awp_seq ?_
  refine awp_seq ?_
  refine awp_region ?_
  refine r_move rfl rfl ?_
  first | (refine r_lenS rfl rfl TD.sl123 rfl ?_) | (refine r_lenNil rfl TD.sl123 rfl ?_) | (refine r_lenV rfl TD.sl123 rfl ?_)
  refine r_move rfl rfl ?_
  first | (refine r_lenS rfl rfl TD.sl123 rfl ?_) | (refine r_lenNil rfl TD.sl123 rfl ?_) | (refine r_lenV rfl TD.sl123 rfl ?_)
  refine r_cmp rfl rfl rfl rfl ?_
  refine awl_nil ?_
  refine x_then ?_
  refine awp_cond rfl (fun hc3 => ?_) (fun hc3 => ?_)
  ·
   have h3 : k < m.length := by have := of_decide_eq_true hc3; simp at this; omega
   rw [if_pos h3] at he
   refine awp_seq ?_
   refine awp_region ?_
   refine r_assign rfl rfl ?_
   refine awl_nil ?_
   refine x_then ?_
   refine awp_ret ?_
   refine x_thenR ?_
   exact ⟨(.inl rfl), _, [], (.one (by first | exact .mk rfl rfl | exact .nil rfl)), ⟨rfl, by rw [he]; rfl⟩, (List.nil_sublist _), (by simp)⟩
  ·
   have h3 : ¬ k < m.length := by have := of_decide_eq_false hc3; simp at this; omega
   rw [if_neg h3] at he
   refine awp_skip ?_
   refine x_then ?_
   refine awp_seq ?_
   refine awp_region ?_
   refine r_assign rfl rfl ?_
   refine awl_nil ?_
   refine x_then ?_
   refine awp_ret ?_
   exact ⟨(.inl rfl), _, [], (.one (by first | exact .mk rfl rfl | exact .nil rfl)), ⟨rfl, by rw [he]; rfl⟩, (List.nil_sublist _), (by simp)⟩
theorem compareP_ok (a b : PL) : ACq Try.prog 48 [.sl 1 ((List.drop 0 (PL.cs a)).map fun c => [c]), .sl 1 ((List.drop 0 (PL.cs b)).map fun c => [c])] [] (fun r n => n = [] ∧ r = .v (.int .i64 (cmpP a b))) := by
  have h := compare_ok [a.1, a.2] [b.1, b.2] (by simp) (by simp)
  rw [cmpL_two] at h; exact h
theorem cmpP_okD (a b : PL) : ACq Try.prog 47 [plA a, plA b] [] (fun r n => n = [] ∧ r = .v (.int .i64 (cmpP a b))) := by
 refine acq_of_awp (rs := [4]) (nt := 8) Try.func47 rfl rfl rfl rfl (fun w0 C0 hq => ?_)
 refine awp_seq ?_
 refine awp_region ?_
 refine r_box rfl rfl rfl (fun b2 => ?_)
 refine r_box rfl rfl rfl (fun b3 => ?_)
 refine r_assign rfl rfl ?_
 refine awl_nil ?_
 refine x_then ?_
 refine awp_seq ?_
 refine awp_imp (imp_commit 0 3 rfl rfl rfl rfl) ?_
 refine awp_imp (imp_commit 0 2 rfl rfl rfl rfl) ?_
 refine awp_drawS [5, 6] [_, _] [] [] TD.mixed rfl rfl rfl ⟨⟨trivial
  , ⟨_, rfl, fun sl hd hr ho => by
    refine r_sliceArr (hr 2 _ rfl rfl rfl) TD.un90 TD.sz3 rfl rfl ?_
    exact awl_nil ⟨rfl, post_put⟩⟩⟩
  , ⟨_, rfl, fun sl hd hr ho => by
    refine r_sliceArr (hr 3 _ rfl rfl rfl) TD.un90 TD.sz3 rfl rfl ?_
    exact awl_nil ⟨rfl, post_put⟩⟩⟩
  (by rfl) ?_
 refine r_callq0 rfl rfl (.cons (.ev rfl rfl) (.cons (.ev rfl rfl) .nil)) (compareP_ok a b) rfl TD.en48 rfl (fun r hr => ?_)
 obtain rfl := hr
 refine r_assign rfl rfl ?_
 refine awl_nil ?_
 refine x_then ?_
 refine awp_ret ?_
 exact ⟨(.inl rfl), _, [], (.one (by first | exact .mk rfl rfl | exact .nil rfl)), ⟨rfl, rfl⟩, (List.nil_sublist _), (by simp)⟩
end Go.Proofs.Ytpkodkoooaldlaa.A
namespace Go.Proofs
open Go.Shelf
def Try.cloneK31_ren : Go.Shelf.Ren := ⟨fun | 5 => 31 | 7 => 49 | n => n, fun | 23 => 87 | 25 => 90 | 3 => 31 | 4 => 4 | 20 => 20 | n => n, fun | n => n⟩
theorem Try.cloneK31 : Go.Proofs.SlLaysW.n5 Try.prog Try.cloneK31_ren := {
  mixed := by kernel_rfl
  f5 := ⟨Try.f31.name, by decide, Try.func31.trans (congrArg some (by kernel_rfl))⟩
  f7 := Try.func49.trans (congrArg some (by kernel_rfl))
  t4 := Try.underlying4
  a4 := Try.isAgg4
  z4 := Try.sizeOf4
  v4 := Try.zeroValue4
  t20 := Try.underlying20
  a20 := Try.isAgg20
  z20 := Try.sizeOf20
  v20 := Try.zeroValue20
  t23 := Try.underlying87
  a23 := Try.isAgg87
  z23 := Try.sizeOf87
  v23 := Try.zeroValue87 }
end Go.Proofs
namespace Go.Proofs.Ytpkodkoooaldlaa.A
open Go Go.RowKit Go.Maps Go.Shelf
theorem clone31 {es : List (Value × AV)} {b : Nat} {fl : Bool} : AC Try.prog 31 [.v (.map (some b))] [⟨b, fl, .map es⟩] (fun r n => ∃ b', r = .v (.map (some b')) ∧ n = [⟨b', true, .map es⟩]) :=
  ac_clone (fun ents clock w hb => AnyW.maps_Clone Try.cloneK31 b ents clock w hb)
end Go.Proofs.Ytpkodkoooaldlaa.A
namespace Go.Proofs.Ytpkodkoooaldlaa.A
open Go Go.RowKit
set_option linter.unusedVariables false
set_option linter.unusedSimpArgs false
set_option maxRecDepth 100000
theorem TD.map87 : mapT Try.prog 87 = some (90, 31) := by kernel_rfl
theorem TD.zero90 : ZeroT Try.prog 90 [.v (.int .i64 0), .v (.int .i64 0)] := ⟨[(.int .i64 0), (.int .i64 0)], by kernel_rfl, (LeCells.refl _)⟩
theorem TD.sz90 : szT Try.prog 90 = some 2 := by kernel_rfl
theorem TD.agg90 : aggT Try.prog 90 = some true := by kernel_rfl
theorem TD.agg87 : aggT Try.prog 87 = some false := by kernel_rfl
theorem TD.en62 : entersT Try.prog 62 := enters_of Try.func62 (by kernel_rfl) (by kernel_rfl)
theorem TD.agg91 : aggT Try.prog 91 = some false := by kernel_rfl
theorem TD.sl91 : sliceT Try.prog 91 = some 90 := by kernel_rfl
theorem TD.zraw90 : zeroT Try.prog 90 = some [(.int .i64 0), (.int .i64 0)] := by kernel_rfl
theorem TD.by90 : bytesT Try.prog 90 = some 16 := by kernel_rfl
theorem TD.zlen90 : (zeroT Try.prog 90).map (·.length) = some 2 := by kernel_rfl
theorem TD.sz91 : szT Try.prog 91 = some 1 := by kernel_rfl
theorem TD.en73 : entersT Try.prog 73 := enters_of Try.func73 (by kernel_rfl) (by kernel_rfl)
theorem TD.en60 : entersT Try.prog 60 := enters_of Try.func60 (by kernel_rfl) (by kernel_rfl)
theorem TD.en61 : entersT Try.prog 61 := enters_of Try.func61 (by kernel_rfl) (by kernel_rfl)
theorem TD.en46 : entersT Try.prog 46 := enters_of Try.func46 (by kernel_rfl) (by kernel_rfl)
theorem TD.en45 : entersT Try.prog 45 := enters_of Try.func45 (by kernel_rfl) (by kernel_rfl)
theorem TD.sl52 : sliceT Try.prog 52 = some 57 := by kernel_rfl
theorem TD.sz57 : szT Try.prog 57 = some 3 := by kernel_rfl
theorem TD.agg57 : aggT Try.prog 57 = some true := by kernel_rfl
theorem TD.zero57 : ZeroT Try.prog 57 [.v (.int .i64 0), .v (.int .i64 0), .v (.int .u64 0)] := ⟨[(.int .i64 0), (.int .i64 0), (.int .u64 0)], by kernel_rfl, (LeCells.refl _)⟩
theorem TD.f57_0 : fieldT Try.prog 57 0 = some (0, 3) := by kernel_rfl
theorem TD.f57_1 : fieldT Try.prog 57 1 = some (1, 3) := by kernel_rfl
theorem TD.arr90 : arrT Try.prog 90 = some 3 := by kernel_rfl
theorem TD.zav31 : ZeroAV Try.prog 31 (.v (.int .u64 0)) := ⟨.v (.int .u64 0), by kernel_rfl, .one (.refl _)⟩
theorem TD.f57_2 : fieldT Try.prog 57 2 = some (2, 31) := by kernel_rfl
theorem TD.sz31 : szT Try.prog 31 = some 1 := by kernel_rfl
theorem TD.agg31 : aggT Try.prog 31 = some false := by kernel_rfl
theorem tr_rwD {wo : List OE} : ∀ x ∈ Tr wo, x.rw = true := fun x hx => by obtain ⟨e0, _, rfl⟩ := List.mem_map.1 hx; rfl
theorem copy_okD (m1 m2 : List (PL × Int)) {d b : Nat} {fl fl' : Bool} : AW Try.prog 32 [.v (.map (some d)), .v (.map (some b))] [⟨b, fl, .map (encM ekP numA m2)⟩] [⟨d, fl', .map (encM ekP numA m1)⟩] (fun r n => r = .tup [] ∧ ∃ es : List (PL × Int), es.Perm m2 ∧ n = [⟨d, true, .map (encM ekP numA (List.foldl (fun (m : List (PL × Int)) (e : PL × Int) => mset m e.1 e.2) m1 es))⟩]) := by
 refine aw_of_awp (rs := []) (nt := 16) (so := [⟨b, false, .map (encM ekP numA m2)⟩, ⟨d, true, .map (encM ekP numA m1)⟩]) Try.func32 rfl rfl rfl rfl rfl (fun w0 C0 hq => ?_)
 refine awp_seq ?_
 refine awp_region ?_
 refine r_move rfl rfl ?_
 refine r_range 0 rfl rfl TD.map87 rfl (fun rb bs clock hbl hbn => ?_)
 refine awl_nil ?_
 refine x_then ?_
 refine awp_block ?_
 refine awp_loop (fun nn0 S => ∃ es : List (PL × Int), ∃ seen : List Nat, S = ⟨16, [(0, .a (.v (.map (some d)))), (1, .a (.v (.map (some b)))), (7, .a (.v (.pointer (some ⟨rb, 0, none⟩))))], [⟨rb, true, .iter b clock seen clock⟩, ⟨b, false, .mapb (encM ekP numA m2) bs clock⟩, ⟨d, true, .map (encM ekP numA (List.foldl (fun (m : List (PL × Int)) (e : PL × Int) => mset m e.1 e.2) m1 es))⟩]⟩ ∧ nn0 = m2.length - es.length ∧ (Vis m2 bs es seen)) (m2.length - ([]).length) ⟨16, [(0, .a (.v (.map (some d)))), (1, .a (.v (.map (some b)))), (7, .a (.v (.pointer (some ⟨rb, 0, none⟩))))], [⟨rb, true, .iter b clock ([]) clock⟩, ⟨b, false, .mapb (encM ekP numA m2) bs clock⟩, ⟨d, true, .map (encM ekP numA (List.foldl (fun (m : List (PL × Int)) (e : PL × Int) => mset m e.1 e.2) m1 ([])))⟩]⟩ ⟨rfl, (Slots.cons rfl (by first | exact .refl _ | exact .nilOwn _ _ | exact .nilSl _ | exact .ownSl _ _ _  | exact SV.le.of_eq (by simp)) (Slots.cons rfl (by first | exact .refl _ | exact .nilOwn _ _ | exact .nilSl _ | exact .ownSl _ _ _  | exact SV.le.of_eq (by simp)) (Slots.cons rfl (by first | exact .refl _ | exact .nilOwn _ _ | exact .nilSl _ | exact .ownSl _ _ _  | exact SV.le.of_eq (by simp)) Slots.nil))), (by first | exact List.Sublist.refl _ | exact .cons_cons _ (.cons _ (.refl _)) | exact List.nil_sublist _ | exact .cons _ (.refl _) | exact .cons _ (.cons _ (.refl _)) | exact .cons _ (.cons _ (.cons _ (.refl _))) | exact .cons _ (.cons _ (.cons _ (.cons _ (.refl _)))) | exact .cons_cons _ (List.nil_sublist _))⟩ ⟨[], [], rfl, rfl, vis_start⟩ ?_
 rintro nn0 _ ⟨es, seen, rfl, rfl, hv⟩
 refine awp_seq ?_
 refine awp_region ?_
 refine r_next 0 1 rfl rfl rfl rfl (fun hend => ?_) (fun q bq pq hpq hbq hnq => ?_)
 ·
  refine r_extract rfl rfl rfl ?_
  refine awl_nil ?_
  refine x_then ?_
  refine awp_seq ?_
  refine awp_condF rfl ?_
  refine awp_exit ?_
  refine x_thenE ?_
  refine x_thenE ?_
  refine x_blockE ?_
  exact ⟨(.inr rfl), _, [⟨d, true, .map (encM ekP numA (List.foldl (fun (m : List (PL × Int)) (e : PL × Int) => mset m e.1 e.2) m1 es))⟩], .none, ⟨rfl, es, vis_end hv (by simpa [encM_len] using hbl) hbn hend, rfl⟩, (by first | exact List.Sublist.refl _ | exact .cons_cons _ (.cons _ (.refl _)) | exact List.nil_sublist _ | exact .cons _ (.refl _) | exact .cons _ (.cons _ (.refl _)) | exact .cons _ (.cons _ (.cons _ (.refl _))) | exact .cons _ (.cons _ (.cons _ (.cons _ (.refl _)))) | exact .cons_cons _ (List.nil_sublist _)), (by simp)⟩
 ·
  obtain ⟨e, he, rfl⟩ := encM_at hpq
  have hlt := vis_lt hv he hbq hnq
  have hv' := vis_step hv he hbq hnq
  refine r_extract rfl rfl rfl ?_
  refine awl_nil ?_
  refine x_then ?_
  refine awp_seq ?_
  refine awp_condT rfl ?_
  refine awp_skip ?_
  refine x_then ?_
  refine awp_block ?_
  refine awp_seq ?_
  refine awp_region ?_
  refine r_entry 0 1 rfl rfl rfl hpq hbq rfl ?_
  refine r_extract rfl rfl rfl ?_
  refine r_extract rfl rfl rfl ?_
  refine r_alloc TD.zero90 rfl (fun b4 => ?_)
  first | (refine r_store 0 rfl rfl rfl TD.sz90 rfl rfl rfl ?_) | (refine r_store 1 rfl rfl rfl TD.sz90 rfl rfl rfl ?_) | (refine r_store 2 rfl rfl rfl TD.sz90 rfl rfl rfl ?_) | (refine r_store 3 rfl rfl rfl TD.sz90 rfl rfl rfl ?_)
  refine r_assign rfl rfl ?_
  refine awl_nil ?_
  refine x_then ?_
  refine awp_region ?_
  refine r_move rfl rfl ?_
  first | (refine r_loadA rfl TD.agg90 TD.sz90 rfl rfl ?_) | (refine r_loadAb 0 rfl rfl TD.agg90 TD.sz90 rfl rfl ?_) | (refine r_loadAb 1 rfl rfl TD.agg90 TD.sz90 rfl rfl ?_) | (refine r_loadAb 2 rfl rfl TD.agg90 TD.sz90 rfl rfl ?_) | (refine r_loadAb 3 rfl rfl TD.agg90 TD.sz90 rfl rfl ?_)
  refine r_move rfl rfl ?_
  first | (refine r_mapUpdateK 0 keyPD (ev := numA) (k := e.1) e.2 rfl rfl rfl (isVal_pl e.1) rfl rfl TD.map87 ?_) | (refine r_mapUpdateK 1 keyPD (ev := numA) (k := e.1) e.2 rfl rfl rfl (isVal_pl e.1) rfl rfl TD.map87 ?_) | (refine r_mapUpdateK 2 keyPD (ev := numA) (k := e.1) e.2 rfl rfl rfl (isVal_pl e.1) rfl rfl TD.map87 ?_) | (refine r_mapUpdateK 3 keyPD (ev := numA) (k := e.1) e.2 rfl rfl rfl (isVal_pl e.1) rfl rfl TD.map87 ?_)
  refine awl_nil ?_
  refine x_block ?_
  refine x_then ?_
  have e0 : List.foldl (fun (m : List (PL × Int)) (e : PL × Int) => mset m e.1 e.2) m1 (es ++ [e]) = mset (List.foldl (fun (m : List (PL × Int)) (e : PL × Int) => mset m e.1 e.2) m1 es) e.1 e.2 := by simp
  refine ⟨m2.length - (es ++ [e]).length, ⟨16, [(0, .a (.v (.map (some d)))), (1, .a (.v (.map (some b)))), (7, .a (.v (.pointer (some ⟨rb, 0, none⟩))))], [⟨rb, true, .iter b clock (seen ++ [bq]) clock⟩, ⟨b, false, .mapb (encM ekP numA m2) bs clock⟩, ⟨d, true, .map (encM ekP numA (List.foldl (fun (m : List (PL × Int)) (e : PL × Int) => mset m e.1 e.2) m1 (es ++ [e])))⟩]⟩, ⟨rfl, (Slots.cons rfl (by first | exact .refl _ | exact .nilOwn _ _ | exact .nilSl _ | exact .ownSl _ _ _  | exact SV.le.of_eq (by simp)) (Slots.cons rfl (by first | exact .refl _ | exact .nilOwn _ _ | exact .nilSl _ | exact .ownSl _ _ _  | exact SV.le.of_eq (by simp)) (Slots.cons rfl (by first | exact .refl _ | exact .nilOwn _ _ | exact .nilSl _ | exact .ownSl _ _ _  | exact SV.le.of_eq (by simp)) Slots.nil))), (by rw [e0]; first | exact List.Sublist.refl _ | exact .cons_cons _ (.cons _ (.refl _)) | exact List.nil_sublist _ | exact .cons _ (.refl _) | exact .cons _ (.cons _ (.refl _)) | exact .cons _ (.cons _ (.cons _ (.refl _))) | exact .cons _ (.cons _ (.cons _ (.cons _ (.refl _)))) | exact .cons_cons _ (List.nil_sublist _))⟩, (by simp; omega), ⟨es ++ [e], seen ++ [bq], rfl, rfl, hv'⟩⟩
theorem keys_okD (b : Nat) : AC Try.prog 46 [.v (.map (some b))] [] (fun r n => n = [] ∧ r = .fn 62 [.cp [.v (.map (some b))]]) := by
 refine ac_of_awp (rs := [2]) (nt := 4) Try.func46 rfl rfl rfl rfl (fun w0 C0 hq => ?_)
 refine awp_seq ?_
 refine awp_region ?_
 refine r_box rfl rfl rfl (fun b1 => ?_)
 refine r_assign rfl rfl ?_
 refine awl_nil ?_
 refine x_then ?_
 refine awp_seq ?_
 refine awp_region ?_
 refine awl_imp (imp_commit 0 1 rfl rfl rfl rfl) ?_
 refine r_makeFunc rfl (.cons (.ev rfl rfl) .nil) rfl ?_
 refine r_assign rfl rfl ?_
 refine awl_nil ?_
 refine x_then ?_
 refine awp_ret ?_
 exact ⟨(.inl rfl), _, [], (.one (by first | exact .mk rfl rfl | exact .nil rfl)), ⟨rfl, rfl⟩, (List.nil_sublist _), (by simp)⟩
def keysAD (m : List (PL × Int)) (pre : List (List AV)) (x : List AV) : Prop := pre.length < m.length ∧ ∃ k : PL, x = [plA k]
theorem plA_injD {a b : PL} (h : plA a = plA b) : a = b := by simp [plA, PL.cs] at h; exact Prod.ext h.1 h.2
theorem pls_injD {a b : List PL} (h : a.map (fun k => [plA k]) = b.map (fun k => [plA k])) : a = b := by
  induction a generalizing b with
  | nil => cases b with | nil => rfl | cons _ _ => simp at h
  | cons x a ih =>
    cases b with
    | nil => simp at h
    | cons y b =>
      simp only [List.map_cons, List.cons.injEq, and_true] at h
      rw [plA_injD h.1, ih h.2]
theorem keys1_okD (m : List (PL × Int)) {b : Nat} {fl : Bool} : IterC Try.prog 62 [.cp [.v (.map (some b))]] [⟨b, fl, .map (encM ekP numA m)⟩] (keysAD m) (fun xs => ∃ kl : List PL, kl.Perm (m.map (·.1)) ∧ xs = kl.map (fun k => [plA k])) := by
 intro l0 Cs J hY wo hJ0
 refine awc_of_awpG Cs (so := ⟨b, false, .map (encM ekP numA m)⟩ :: Tr wo) (nt := 14) (fun S r => Result1 S [] r) Try.func62 rfl rfl rfl rfl (result1_run rfl) (fun w0 C0 hq hcs => ?_)
 refine awp_seq ?_
 refine awp_region ?_
 first | (refine r_load1 rfl TD.agg87 rfl ?_) | (refine r_load1b 0 rfl rfl rfl TD.agg87 rfl ?_)
 refine r_range 0 rfl rfl TD.map87 rfl (fun rb bs clock hbl hbn => ?_)
 refine awl_nil ?_
 refine x_then ?_
 refine awp_block ?_
 refine awp_loop (fun nn0 S => ∃ es : List (PL × Int), ∃ seen : List Nat, ∃ wv : List OE, S = ⟨14, [(0, .a (.v (.func (.yield l0) #[] #[]))), (1, .a (.cp [.v (.map (some b))])), (5, .a (.v (.pointer (some ⟨rb, 0, none⟩))))], ⟨rb, true, .iter b clock seen clock⟩ :: ⟨b, false, .mapb (encM ekP numA m) bs clock⟩ :: Tr wv⟩ ∧ nn0 = m.length - es.length ∧ (Vis m bs es seen) ∧ (J (es.map (fun e => [plA e.1])) wv)) (m.length - ([]).length) ⟨14, [(0, .a (.v (.func (.yield l0) #[] #[]))), (1, .a (.cp [.v (.map (some b))])), (5, .a (.v (.pointer (some ⟨rb, 0, none⟩))))], ⟨rb, true, .iter b clock ([]) clock⟩ :: ⟨b, false, .mapb (encM ekP numA m) bs clock⟩ :: Tr (wo)⟩ ⟨rfl, (Slots.cons rfl (by first | exact .refl _ | exact .nilOwn _ _ | exact .nilSl _ | exact .ownSl _ _ _  | exact SV.le.of_eq (by simp)) (Slots.cons rfl (by first | exact .refl _ | exact .nilOwn _ _ | exact .nilSl _ | exact .ownSl _ _ _  | exact SV.le.of_eq (by simp)) (Slots.cons rfl (by first | exact .refl _ | exact .nilOwn _ _ | exact .nilSl _ | exact .ownSl _ _ _  | exact SV.le.of_eq (by simp)) Slots.nil))), (by first | exact List.Sublist.refl _ | exact .cons_cons _ (.cons _ (.refl _)) | exact List.nil_sublist _ | exact .cons _ (.refl _) | exact .cons _ (.cons _ (.refl _)) | exact .cons _ (.cons _ (.cons _ (.refl _))) | exact .cons _ (.cons _ (.cons _ (.cons _ (.refl _)))) | exact .cons_cons _ (List.nil_sublist _))⟩ ⟨[], [], wo, rfl, rfl, vis_start, hJ0⟩ ?_
 rintro nn0 _ ⟨es, seen, wv, rfl, rfl, hv, hJ⟩
 refine awp_seq ?_
 refine awp_region ?_
 refine r_next 0 1 rfl rfl rfl rfl (fun hend => ?_) (fun q bq pq hpq hbq hnq => ?_)
 ·
  refine r_extract rfl rfl rfl ?_
  refine awl_nil ?_
  refine x_then ?_
  refine awp_seq ?_
  refine awp_condF rfl ?_
  refine awp_exit ?_
  refine x_thenE ?_
  refine x_thenE ?_
  refine x_blockE ?_
  exact ⟨(.inr rfl), _, Tr wv, .none, ⟨_, wv, ⟨es.map (·.1), (vis_end hv (by simpa [encM_len] using hbl) hbn hend).map _, by simp⟩, hJ, rfl⟩, (.cons _ (.cons _ (.refl _))), tr_rwD⟩
 ·
  obtain ⟨e, he, rfl⟩ := encM_at hpq
  have hlt := vis_lt hv he hbq hnq
  have hv' := vis_step hv he hbq hnq
  refine r_extract rfl rfl rfl ?_
  refine awl_nil ?_
  refine x_then ?_
  refine awp_seq ?_
  refine awp_condT rfl ?_
  refine awp_skip ?_
  refine x_then ?_
  refine awp_block ?_
  refine awp_seq ?_
  refine awp_region ?_
  refine r_entry 0 1 rfl rfl rfl hpq hbq rfl ?_
  refine r_extract rfl rfl rfl ?_
  refine r_alloc TD.zero90 rfl (fun b3 => ?_)
  first | (refine r_store 0 rfl rfl rfl TD.sz90 rfl rfl rfl ?_) | (refine r_store 1 rfl rfl rfl TD.sz90 rfl rfl rfl ?_) | (refine r_store 2 rfl rfl rfl TD.sz90 rfl rfl rfl ?_)
  refine awl_nil ?_
  refine x_then ?_
  refine awp_seq ?_
  refine awp_regionI ?_
  refine awli_op (fun c h => (by cases h)) ?_
  refine r_move rfl rfl ?_
  refine awl_nil ⟨rfl, ?_⟩
  refine awli_op (fun c h => (by cases h)) ?_
  first | (refine r_loadA rfl TD.agg90 TD.sz90 rfl rfl ?_) | (refine r_loadAb 0 rfl rfl TD.agg90 TD.sz90 rfl rfl ?_) | (refine r_loadAb 1 rfl rfl TD.agg90 TD.sz90 rfl rfl ?_) | (refine r_loadAb 2 rfl rfl TD.agg90 TD.sz90 rfl rfl ?_)
  refine awl_nil ⟨rfl, ?_⟩
  refine r_yield hq (un := [⟨b3, true, .box (PL.cs e.1)⟩, ⟨rb, true, .iter b clock (seen ++ [bq]) clock⟩, ⟨b, false, .mapb (encM ekP numA m) bs clock⟩]) (fun n => [⟨b3, true, .box (PL.cs e.1)⟩, ⟨rb, true, .iter b clock (seen ++ [bq]) clock⟩, ⟨b, false, .mapb (encM ekP numA m) bs clock⟩] ++ Tr n) rfl rfl (.cons (.ev rfl rfl) .nil) Cs hcs (hY (es.map (fun e => [plA e.1])) [plA e.1] wv hJ ⟨by simpa using hlt, e.1, rfl⟩) List.perm_append_comm (fun n => List.perm_append_comm) rfl (fun nobjs hJ' => ?_)
  refine awli_op (fun c h => (by cases h)) ?_
  refine r_not rfl rfl ?_
  refine awl_nil ⟨rfl, ?_⟩
  refine awli_nil ?_
  refine x_then ?_
  refine awp_cond rfl (fun hc1 => ?_) (fun hc1 => ?_)
  ·
   exfalso; simp at hc1
  ·
   refine awp_skip ?_
   refine x_block ?_
   refine x_then ?_
   refine ⟨m.length - (es ++ [e]).length, ⟨14, [(0, .a (.v (.func (.yield l0) #[] #[]))), (1, .a (.cp [.v (.map (some b))])), (5, .a (.v (.pointer (some ⟨rb, 0, none⟩))))], ⟨rb, true, .iter b clock (seen ++ [bq]) clock⟩ :: ⟨b, false, .mapb (encM ekP numA m) bs clock⟩ :: Tr (nobjs)⟩, ⟨rfl, (Slots.cons rfl (by first | exact .refl _ | exact .nilOwn _ _ | exact .nilSl _ | exact .ownSl _ _ _  | exact SV.le.of_eq (by simp)) (Slots.cons rfl (by first | exact .refl _ | exact .nilOwn _ _ | exact .nilSl _ | exact .ownSl _ _ _  | exact SV.le.of_eq (by simp)) (Slots.cons rfl (by first | exact .refl _ | exact .nilOwn _ _ | exact .nilSl _ | exact .ownSl _ _ _  | exact SV.le.of_eq (by simp)) Slots.nil))), (.cons _ (.refl _))⟩, (by simp; omega), ⟨es ++ [e], seen ++ [bq], nobjs, rfl, rfl, hv', (by simpa using hJ')⟩⟩
theorem appendSeq_okD (m : List (PL × Int)) (hm : m.length ≤ 1000000) {b : Nat} {fl : Bool} : AC Try.prog 73 [.v (.slice none 0 0), .fn 62 [.cp [.v (.map (some b))]]] [⟨b, fl, .map (encM ekP numA m)⟩] (fun r n => ∃ kl : List PL, kl.Perm (m.map (·.1)) ∧ GrowR 2 90 (kl.map PL.cs) r n) := by
 refine ac_of_awp (rs := [4]) (nt := 13) Try.func73 rfl rfl rfl rfl (fun w0 C0 hq => ?_)
 refine awp_seq ?_
 refine awp_region ?_
 refine r_box rfl rfl rfl (fun b2 => ?_)
 refine r_assign rfl rfl ?_
 refine awl_nil ?_
 refine x_then ?_
 refine awp_seq ?_
 refine awp_seq ?_
 refine awp_region ?_
 refine r_move rfl rfl ?_
 refine awl_nil ?_
 refine x_then ?_
 refine awp_block ?_
 refine awp_rangeFunc (fun pre wo => ∃ kl : List PL, pre = kl.map (fun k => [plA k]) ∧ GrowB b2 2 90 (kl.map PL.cs) wo) [(2, .a (.v (.pointer (some ⟨b2, 0, none⟩))))] [true] hq rfl (keys1_okD m) TD.en62 (fun pre x h => by obtain ⟨_, k, rfl⟩ := h; rfl) rfl rfl rfl (List.Sublist.refl _) (Slots.cons rfl (by first | exact .refl _ | exact .nilOwn _ _ | exact .nilSl _ | exact .ownSl _ _ _  | exact SV.le.of_eq (by simp)) Slots.nil) rfl rfl ⟨[], rfl, .inl ⟨rfl, rfl⟩⟩ ?_ ?_
 ·
  intro lr pre x wo rec busy w0 C0 hq hj hax
  obtain ⟨kl, rfl, hgb⟩ := hj
  obtain ⟨hlen, k, rfl⟩ := hax
  simp only [List.length_map] at hlen
  rcases hgb with ⟨h0, rfl⟩ | ⟨h0, g, cap, rfl⟩
  ·
   obtain rfl : kl = [] := by simpa using h0
   refine awpi_region ?_
   refine awli_op (fun c h => (by cases h)) ?_
   refine r_alloc TD.zero90 rfl (fun b5 => ?_)
   refine awl_nil ⟨rfl, ?_⟩
   refine awli_op (fun c h => (by cases h)) ?_
   first | (refine r_store 0 rfl rfl rfl TD.sz90 rfl rfl rfl ?_) | (refine r_store 1 rfl rfl rfl TD.sz90 rfl rfl rfl ?_) | (refine r_store 2 rfl rfl rfl TD.sz90 rfl rfl rfl ?_) | (refine r_store 3 rfl rfl rfl TD.sz90 rfl rfl rfl ?_)
   refine awl_nil ⟨rfl, ?_⟩
   refine awli_nil ?_
   refine ⟨rfl, 2, rfl, ?_⟩
   refine awpi_block ?_
   refine awpi_region ?_
   refine awli_op (fun c h => (by cases h)) ?_
   first | (refine r_load1 rfl TD.agg91 rfl ?_) | (refine r_load1b 0 rfl rfl rfl TD.agg91 rfl ?_) | (refine r_load1b 1 rfl rfl rfl TD.agg91 rfl ?_) | (refine r_load1b 2 rfl rfl rfl TD.agg91 rfl ?_) | (refine r_load1b 3 rfl rfl rfl TD.agg91 rfl ?_)
   refine awl_nil ⟨rfl, ?_⟩
   refine awli_op (fun c h => (by cases h)) ?_
   first | (refine r_loadA rfl TD.agg90 TD.sz90 rfl rfl ?_) | (refine r_loadAb 0 rfl rfl TD.agg90 TD.sz90 rfl rfl ?_) | (refine r_loadAb 1 rfl rfl TD.agg90 TD.sz90 rfl rfl ?_) | (refine r_loadAb 2 rfl rfl TD.agg90 TD.sz90 rfl rfl ?_) | (refine r_loadAb 3 rfl rfl TD.agg90 TD.sz90 rfl rfl ?_)
   refine awl_nil ⟨rfl, ?_⟩
   refine awli_op (fun c h => (by cases h)) ?_
   refine r_lit 10 (parts := [(0, .tmp 9)]) rfl TD.sl91 TD.sz90 TD.zraw90 rfl rfl rfl rfl rfl rfl rfl ?_
   refine awl_nil ⟨rfl, ?_⟩
   refine awli_op (fun c h => (by cases h)) ?_
   refine r_appendBN rfl rfl (by first | exact .sl _ | exact .own _ _) (by simp [chunks]) TD.sl91 TD.sz90 TD.by90 TD.zlen90 (by simp [chunks] <;> omega) (by simp [chunks] <;> omega) rfl (fun gb gc => ?_)
   refine awl_nil ⟨rfl, ?_⟩
   refine awli_op (fun c h => (by cases h)) ?_
   first | (refine r_store 0 rfl rfl rfl TD.sz91 rfl rfl rfl ?_) | (refine r_store 1 rfl rfl rfl TD.sz91 rfl rfl rfl ?_) | (refine r_store 2 rfl rfl rfl TD.sz91 rfl rfl rfl ?_) | (refine r_store 3 rfl rfl rfl TD.sz91 rfl rfl rfl ?_) | (refine r_store 4 rfl rfl rfl TD.sz91 rfl rfl rfl ?_)
   refine awl_nil ⟨rfl, ?_⟩
   refine awli_nil ?_
   refine x_block ?_
   refine ⟨rfl, _, ⟨[k], rfl, .inr ⟨by simp, gb, gc, rfl⟩⟩, ?_, by simp⟩
   first | exact List.Sublist.refl _ | exact .cons_cons _ (.cons _ (.refl _)) | exact List.nil_sublist _ | exact .cons _ (.refl _) | exact .cons _ (.cons _ (.refl _)) | exact .cons _ (.cons _ (.cons _ (.refl _))) | exact .cons _ (.cons _ (.cons _ (.cons _ (.refl _)))) | exact .cons_cons _ (List.nil_sublist _)
  ·
   refine awpi_region ?_
   refine awli_op (fun c h => (by cases h)) ?_
   refine r_alloc TD.zero90 rfl (fun b5 => ?_)
   refine awl_nil ⟨rfl, ?_⟩
   refine awli_op (fun c h => (by cases h)) ?_
   first | (refine r_store 0 rfl rfl rfl TD.sz90 rfl rfl rfl ?_) | (refine r_store 1 rfl rfl rfl TD.sz90 rfl rfl rfl ?_) | (refine r_store 2 rfl rfl rfl TD.sz90 rfl rfl rfl ?_) | (refine r_store 3 rfl rfl rfl TD.sz90 rfl rfl rfl ?_) | (refine r_store 4 rfl rfl rfl TD.sz90 rfl rfl rfl ?_)
   refine awl_nil ⟨rfl, ?_⟩
   refine awli_nil ?_
   refine ⟨rfl, 3, rfl, ?_⟩
   refine awpi_block ?_
   refine awpi_region ?_
   refine awli_op (fun c h => (by cases h)) ?_
   first | (refine r_load1 rfl TD.agg91 rfl ?_) | (refine r_load1b 0 rfl rfl rfl TD.agg91 rfl ?_) | (refine r_load1b 1 rfl rfl rfl TD.agg91 rfl ?_) | (refine r_load1b 2 rfl rfl rfl TD.agg91 rfl ?_) | (refine r_load1b 3 rfl rfl rfl TD.agg91 rfl ?_) | (refine r_load1b 4 rfl rfl rfl TD.agg91 rfl ?_)
   refine awl_nil ⟨rfl, ?_⟩
   refine awli_op (fun c h => (by cases h)) ?_
   first | (refine r_loadA rfl TD.agg90 TD.sz90 rfl rfl ?_) | (refine r_loadAb 0 rfl rfl TD.agg90 TD.sz90 rfl rfl ?_) | (refine r_loadAb 1 rfl rfl TD.agg90 TD.sz90 rfl rfl ?_) | (refine r_loadAb 2 rfl rfl TD.agg90 TD.sz90 rfl rfl ?_) | (refine r_loadAb 3 rfl rfl TD.agg90 TD.sz90 rfl rfl ?_) | (refine r_loadAb 4 rfl rfl TD.agg90 TD.sz90 rfl rfl ?_)
   refine awl_nil ⟨rfl, ?_⟩
   refine awli_op (fun c h => (by cases h)) ?_
   refine r_lit 10 (parts := [(0, .tmp 9)]) rfl TD.sl91 TD.sz90 TD.zraw90 rfl rfl rfl rfl rfl rfl rfl ?_
   refine awl_nil ⟨rfl, ?_⟩
   refine awli_op (fun c h => (by cases h)) ?_
   refine r_appendBG 1 rfl rfl rfl rfl (by first | exact .sl _ | exact .own _ _) (by simp [chunks]) TD.sl91 TD.sz90 TD.by90 TD.zlen90 (by simp [chunks] <;> omega) (by simp [chunks] <;> omega) rfl (fun gb gc => ?_)
   refine awl_nil ⟨rfl, ?_⟩
   refine awli_op (fun c h => (by cases h)) ?_
   first | (refine r_store 0 rfl rfl rfl TD.sz91 rfl rfl rfl ?_) | (refine r_store 1 rfl rfl rfl TD.sz91 rfl rfl rfl ?_) | (refine r_store 2 rfl rfl rfl TD.sz91 rfl rfl rfl ?_) | (refine r_store 3 rfl rfl rfl TD.sz91 rfl rfl rfl ?_) | (refine r_store 4 rfl rfl rfl TD.sz91 rfl rfl rfl ?_)
   refine awl_nil ⟨rfl, ?_⟩
   refine awli_nil ?_
   refine x_block ?_
   refine ⟨rfl, _, ⟨kl ++ [k], by simp, .inr ⟨by simp, gb, gc, rfl⟩⟩, ?_, by simp⟩
   simp only [List.map_append, List.map_cons, List.map_nil]
   first | exact List.Sublist.refl _ | exact .cons_cons _ (.cons _ (.refl _)) | exact List.nil_sublist _ | exact .cons _ (.refl _) | exact .cons _ (.cons _ (.refl _)) | exact .cons _ (.cons _ (.cons _ (.refl _))) | exact .cons _ (.cons _ (.cons _ (.cons _ (.refl _)))) | exact .cons_cons _ (List.nil_sublist _)
 ·
  intro xs wo' hG hJ
  obtain ⟨kl, rfl, hgb⟩ := hJ
  obtain ⟨kl', hk1, hk2⟩ := hG
  obtain rfl := pls_injD hk2
  rcases hgb with ⟨h0, rfl⟩ | ⟨h0, g, cap, rfl⟩
  ·
   refine x_block ?_
   refine x_then ?_
   refine awp_seq ?_
   refine awp_region ?_
   first | (refine r_load1 rfl TD.agg91 rfl ?_) | (refine r_load1b 0 rfl rfl rfl TD.agg91 rfl ?_) | (refine r_load1b 1 rfl rfl rfl TD.agg91 rfl ?_)
   refine r_assign rfl rfl ?_
   refine awl_nil ?_
   refine x_then ?_
   refine awp_ret ?_
   exact ⟨(.inl rfl), _, [], (.one (by first | exact .mk rfl rfl | exact .nil rfl)), ⟨kl, hk1, .inl ⟨h0, rfl, rfl⟩⟩, (List.nil_sublist _), (by simp)⟩
  ·
   refine x_block ?_
   refine x_then ?_
   refine awp_seq ?_
   refine awp_region ?_
   first | (refine r_load1 rfl TD.agg91 rfl ?_) | (refine r_load1b 0 rfl rfl rfl TD.agg91 rfl ?_) | (refine r_load1b 1 rfl rfl rfl TD.agg91 rfl ?_)
   refine r_assign rfl rfl ?_
   refine awl_nil ?_
   refine x_then ?_
   refine awp_ret ?_
   exact ⟨(.inl rfl), _, [⟨g, true, .buf 2 (kl.map PL.cs) cap 90⟩], (.one (by first | exact .mk rfl rfl | exact .nil rfl)), ⟨kl, hk1, .inr ⟨h0, g, cap, rfl, rfl⟩⟩, (by first | exact List.Sublist.refl _ | exact .cons_cons _ (.cons _ (.refl _)) | exact List.nil_sublist _ | exact .cons _ (.refl _) | exact .cons _ (.cons _ (.refl _)) | exact .cons _ (.cons _ (.cons _ (.refl _))) | exact .cons _ (.cons _ (.cons _ (.cons _ (.refl _)))) | exact .cons_cons _ (List.nil_sublist _)), (by simp)⟩
theorem collect_okD (m : List (PL × Int)) (hm : m.length ≤ 1000000) {b : Nat} {fl : Bool} : AC Try.prog 60 [.fn 62 [.cp [.v (.map (some b))]]] [⟨b, fl, .map (encM ekP numA m)⟩] (fun r n => ∃ kl : List PL, kl.Perm (m.map (·.1)) ∧ GrowR 2 90 (kl.map PL.cs) r n) := by
 refine ac_of_awp (rs := [2]) (nt := 5) Try.func60 rfl rfl rfl rfl (fun w0 C0 hq => ?_)
 refine awp_seq ?_
 refine awp_region ?_
 refine r_assign rfl rfl ?_
 refine awl_nil ?_
 refine x_then ?_
 refine awp_seq ?_
 refine awp_region ?_
 refine r_move rfl rfl ?_
 refine r_callO hq rfl rfl (.cons (.ev rfl rfl) (.cons (.ev rfl rfl) .nil)) (appendSeq_okD m hm) rfl TD.en73 (List.Sublist.refl _) rfl (fun r nobjs hr => ?_)
 obtain ⟨kl, hk, ⟨h0, rfl, rfl⟩ | ⟨h0, g, cap, rfl, rfl⟩⟩ := hr
 ·
  refine r_assign rfl rfl ?_
  refine awl_nil ?_
  refine x_then ?_
  refine awp_ret ?_
  exact ⟨(.inl rfl), _, [], (.one (by first | exact .mk rfl rfl | exact .nil rfl)), ⟨kl, hk, .inl ⟨h0, rfl, rfl⟩⟩, (List.nil_sublist _), (by simp)⟩
 ·
  refine r_assign rfl rfl ?_
  refine awl_nil ?_
  refine x_then ?_
  refine awp_ret ?_
  exact ⟨(.inl rfl), _, [⟨g, true, .buf 2 (kl.map PL.cs) cap 90⟩], (.one (by first | exact .mk rfl rfl | exact .nil rfl)), ⟨kl, hk, .inr ⟨h0, g, cap, rfl, rfl⟩⟩, (by first | exact List.Sublist.refl _ | exact .cons_cons _ (.cons _ (.refl _)) | exact List.nil_sublist _ | exact .cons _ (.refl _) | exact .cons _ (.cons _ (.refl _)) | exact .cons _ (.cons _ (.cons _ (.refl _))) | exact .cons _ (.cons _ (.cons _ (.cons _ (.refl _)))) | exact .cons_cons _ (List.nil_sublist _)), (by simp)⟩
theorem sortNil_okD {cmp : Nat} : AC Try.prog 61 [.v (.slice none 0 0), .fn cmp []] [] (fun r n => n = [] ∧ r = .tup []) := by
  intro C w vals hcom hrels hobjs
  obtain ⟨v0, vs0, hvv, hr0, hr1⟩ := hrels.cons_inv
  obtain ⟨v1, vs1, rfl, hr2, hr3⟩ := hr1.cons_inv
  obtain rfl := hr3.nil_inv
  cases hr0
  obtain rfl : vals = #[.slice none 0 0, v1] := by apply Array.ext'; simpa using hvv
  refine (sortFunc0_61 none 0 v1 w).mono ?_
  rintro e w' ⟨rfl, rfl⟩
  exact ⟨_, C, _, [], rfl, ⟨rfl, rfl⟩, Below.refl _ _, fun _ _ _ => rfl, hcom, rel_tup.2 Rels.nil, ⟨by simp, by simp⟩, by simp⟩
theorem pl_oneD (x : PL) : ∀ v ∈ PL.vs x, v.oneCell' = true := by intro v hv; simp [PL.vs] at hv; rcases hv with rfl | rfl <;> rfl
theorem aw_sortPD {g cap cap' n : Nat} {fl : Bool} {l : List PL} (hn : n = l.length) (hl : l.length ≤ 1000000) :
    AW Try.prog 61 [.v (.slice (some ⟨g, 0, none⟩) n cap'), .fn 47 []] [] [⟨g, fl, .buf 2 (l.map PL.cs) cap 90⟩] (fun r nobjs => r = .tup [] ∧ nobjs = [⟨g, true, .buf 2 ((l.mergeSort fun x y => !(ltOf cmpP) y x).map PL.cs) cap 90⟩]) :=
  aw_sortFunc cmpP sortFunc61 sortFunc0_61 (enters_of Try.func47 (by kernel_rfl) (by kernel_rfl)) areVals_pl (fun _ => rfl) pl_oneD cmpP_swo cmpP_part (fun x y => cmpP_okD x y) hn (by omega)
theorem sortedFunc_okD (m : List (PL × Int)) (hm : m.length ≤ 1000000) {b : Nat} {fl : Bool} : AC Try.prog 45 [.fn 62 [.cp [.v (.map (some b))]], .fn 47 []] [⟨b, fl, .map (encM ekP numA m)⟩] (fun r n => n = [] ∧ ∃ kl : List PL, kl.Perm (m.map (·.1)) ∧ r = plsA (kl.mergeSort fun x y => !(ltOf cmpP) y x)) := by
 refine ac_of_awp (rs := [4]) (nt := 12) Try.func45 rfl rfl rfl rfl (fun w0 C0 hq => ?_)
 refine awp_seq ?_
 refine awp_region ?_
 refine r_assign rfl rfl ?_
 refine awl_nil ?_
 refine x_then ?_
 refine awp_seq ?_
 refine awp_region ?_
 refine r_move rfl rfl ?_
 refine r_callO hq rfl rfl (.cons (.ev rfl rfl) .nil) (collect_okD m hm) rfl TD.en60 (List.Sublist.refl _) rfl (fun r nobjs hr => ?_)
 obtain ⟨kl, hk, ⟨h0, rfl, rfl⟩ | ⟨h0, g, cap, rfl, rfl⟩⟩ := hr
 ·
  obtain rfl : kl = [] := by simpa using h0
  refine r_assign rfl rfl ?_
  refine awl_nil ?_
  refine x_then ?_
  refine awp_seq ?_
  refine awp_region ?_
  refine r_move rfl rfl ?_
  refine r_move rfl rfl ?_
  refine r_call0 hq rfl rfl (.cons (.ev rfl rfl) (.cons (.ev rfl rfl) .nil)) (sortNil_okD) rfl TD.en61 rfl (fun r hr => ?_)
  obtain rfl := hr
  refine awl_nil ?_
  refine x_then ?_
  refine awp_seq ?_
  refine awp_region ?_
  refine r_move rfl rfl ?_
  refine r_assign rfl rfl ?_
  refine awl_nil ?_
  refine x_then ?_
  refine awp_ret ?_
  exact ⟨(.inl rfl), _, [], (.one (.nil (sz := 2) rfl)), ⟨rfl, [], hk, by simp [plsA]⟩, (List.nil_sublist _), (by simp)⟩
 ·
  have hkl : kl.length ≤ 1000000 := by have := hk.length_eq; simp at this; omega
  refine r_assign rfl rfl ?_
  refine awl_nil ?_
  refine x_then ?_
  refine awp_seq ?_
  refine awp_region ?_
  refine r_move rfl rfl ?_
  refine r_move rfl rfl ?_
  refine r_callW hq [true] rfl rfl (.cons (.ev rfl rfl) (.cons (.ev rfl rfl) .nil)) (aw_sortPD (by simp) hkl) rfl TD.en61 rfl rfl (List.nil_sublist _) rfl (fun r nobjs hr => ?_)
  obtain ⟨rfl, rfl⟩ := hr
  refine awl_nil ?_
  refine x_then ?_
  refine awp_seq ?_
  refine awp_region ?_
  refine awl_imp (imp_commitB 0 5 rfl (by simp [List.length_mergeSort]) rfl) ?_
  refine r_move rfl rfl ?_
  refine r_assign rfl rfl ?_
  refine awl_nil ?_
  refine x_then ?_
  refine awp_ret ?_
  exact ⟨(.inl rfl), _, [], (.one (by first | exact .mk rfl rfl | exact .nil rfl)), ⟨rfl, kl, hk, rfl⟩, (List.nil_sublist _), (by simp)⟩
theorem order_ok (m : List (PL × Int)) (hm : m.length ≤ 1000000) {b : Nat} {fl : Bool} : AC Try.prog 30 [.v (.map (some b))] [⟨b, fl, .map (encM ekP numA m)⟩] (fun r n => n = [] ∧ ∃ kl : List PL, kl.Perm (m.map (·.1)) ∧ r = plsA (kl.mergeSort fun x y => !(ltOf cmpP) y x)) := by
 refine ac_of_awp (rs := [2]) (nt := 6) Try.func30 rfl rfl rfl rfl (fun w0 C0 hq => ?_)
 refine awp_seq ?_
 refine awp_region ?_
 refine r_assign rfl rfl ?_
 refine awl_nil ?_
 refine x_then ?_
 refine awp_seq ?_
 refine awp_region ?_
 refine r_move rfl rfl ?_
 refine r_call0 hq rfl rfl (.cons (.ev rfl rfl) .nil) (keys_okD b) rfl TD.en46 rfl (fun r hr => ?_)
 obtain rfl := hr
 refine r_callO hq rfl rfl (.cons (.ev rfl rfl) (.cons (.ev rfl rfl) .nil)) (sortedFunc_okD m hm) rfl TD.en45 (List.Sublist.refl _) rfl (fun r nobjs hr => ?_)
 obtain ⟨rfl, kl, hkl, rfl⟩ := hr
 refine r_assign rfl rfl ?_
 refine awl_nil ?_
 refine x_then ?_
 refine awp_ret ?_
 exact ⟨(.inl rfl), _, [], (.one (by first | exact .mk rfl rfl | exact .nil rfl)), ⟨rfl, kl, hkl, rfl⟩, (List.nil_sublist _), (by simp)⟩
theorem told_map (l : List Ent) (hl : l.length ≤ 1000000) : AC Try.prog 29 [entsA l] [] (fun r n => ∃ b m, r = .v (.map (some b)) ∧ n = [⟨b, true, .map (encM ekP numA m)⟩] ∧ Tells m l) := by
 refine ac_of_awp (rs := [2]) (nt := 35) Try.func29 rfl rfl rfl rfl (fun w0 C0 hq => ?_)
 refine awp_seq ?_
 refine awp_region ?_
 refine r_assign rfl rfl ?_
 refine awl_nil ?_
 refine x_then ?_
 refine awp_seq ?_
 refine awp_region ?_
 refine r_makeMap (ek := ekP) (ev := numA) [] rfl rfl (fun b9 => ?_)
 refine r_assign rfl rfl ?_
 refine awl_nil ?_
 refine x_then ?_
 refine awp_seq ?_
 refine awp_seq ?_
 refine awp_region ?_
 refine r_move rfl rfl ?_
 first | (refine r_lenS rfl rfl TD.sl52 rfl ?_) | (refine r_lenNil rfl TD.sl52 rfl ?_) | (refine r_lenV rfl TD.sl52 rfl ?_)
 refine r_move rfl rfl ?_
 refine awl_nil ?_
 refine x_then ?_
 refine awp_block ?_
 refine awp_loop (fun nn0 S => ∃ k : Nat, ∃ m : List (PL × Int), S = ⟨35, [(3, .a (.v (.map (some b9)))), (10, .a (entsA l)), (11, .a (.v (.int .i64 ((l.map Ent.cs).length)))), (12, .a (.v (.int .i64 ((k : Int)))))], [⟨b9, true, .map (encM ekP numA m)⟩]⟩ ∧ nn0 = l.length - k ∧ (k ≤ l.length) ∧ (Tells m (l.take k))) (l.length - (0)) ⟨35, [(3, .a (.v (.map (some b9)))), (10, .a (entsA l)), (11, .a (.v (.int .i64 ((l.map Ent.cs).length)))), (12, .a (.v (.int .i64 (((0) : Int)))))], [⟨b9, true, .map (encM ekP numA ([]))⟩]⟩ ⟨rfl, (Slots.cons rfl (by first | exact .refl _ | exact .nilOwn _ _ | exact .nilSl _ | exact .ownSl _ _ _  | exact SV.le.of_eq (by simp)) (Slots.cons rfl (by first | exact .refl _ | exact .nilOwn _ _ | exact .nilSl _ | exact .ownSl _ _ _  | exact SV.le.of_eq (by simp)) (Slots.cons rfl (by first | exact .refl _ | exact .nilOwn _ _ | exact .nilSl _ | exact .ownSl _ _ _  | exact SV.le.of_eq (by simp)) (Slots.cons rfl (by first | exact .refl _ | exact .nilOwn _ _ | exact .nilSl _ | exact .ownSl _ _ _  | exact SV.le.of_eq (by simp)) Slots.nil)))), (by first | exact List.Sublist.refl _ | exact .cons_cons _ (.cons _ (.refl _)) | exact List.nil_sublist _ | exact .cons _ (.refl _) | exact .cons _ (.cons _ (.refl _)) | exact .cons _ (.cons _ (.cons _ (.refl _))) | exact .cons _ (.cons _ (.cons _ (.cons _ (.refl _)))) | exact .cons_cons _ (List.nil_sublist _))⟩ ⟨0, [], rfl, rfl, Nat.zero_le _, tells_nil⟩ ?_
 rintro nn0 _ ⟨k, m, rfl, rfl, hk, ht⟩
 refine awp_seq ?_
 refine awp_region ?_
 refine r_cmp rfl rfl rfl rfl ?_
 refine awl_nil ?_
 refine x_then ?_
 refine awp_seq ?_
 refine awp_cond rfl (fun hc0 => ?_) (fun hc0 => ?_)
 ·
  have hltx : k < l.length := by have := of_decide_eq_true hc0; simpa using this
  obtain ⟨x, hx⟩ := get_lt hltx
  refine awp_skip ?_
  refine x_then ?_
  refine awp_seq ?_
  refine awp_block ?_
  refine awp_seq ?_
  refine awp_region ?_
  refine r_index rfl rfl rfl TD.sl52 TD.sz57 (by omega) (get_map hx) rfl ?_
  first | (refine r_loadA rfl TD.agg57 TD.sz57 rfl rfl ?_) | (refine r_loadAb 0 rfl rfl TD.agg57 TD.sz57 rfl rfl ?_)
  refine r_alloc TD.zero57 rfl (fun b5 => ?_)
  first | (refine r_store 0 rfl rfl rfl TD.sz57 rfl rfl rfl ?_) | (refine r_store 1 rfl rfl rfl TD.sz57 rfl rfl rfl ?_)
  refine awl_nil ?_
  refine x_then ?_
  refine awp_seq ?_
  refine awp_region ?_
  first | (refine r_fieldcp rfl TD.f57_0 TD.sz3 rfl ?_) | (refine r_fieldpt rfl TD.f57_0 TD.sz3 rfl ?_) | (refine r_fieldb rfl TD.f57_0 TD.sz3 rfl ?_)
  refine r_load1b 0 rfl rfl rfl TD.agg3 rfl ?_
  first | (refine r_fieldcp rfl TD.f57_1 TD.sz3 rfl ?_) | (refine r_fieldpt rfl TD.f57_1 TD.sz3 rfl ?_) | (refine r_fieldb rfl TD.f57_1 TD.sz3 rfl ?_)
  refine r_load1b 0 rfl rfl rfl TD.agg3 rfl ?_
  refine r_buildArr (parts := [(0, .tmp 17), (1, .tmp 19)]) rfl TD.arr90 TD.sz3 TD.zero90 rfl rfl rfl ?_
  refine r_alloc TD.zero90 rfl (fun b6 => ?_)
  first | (refine r_store 0 rfl rfl rfl TD.sz90 rfl rfl rfl ?_) | (refine r_store 1 rfl rfl rfl TD.sz90 rfl rfl rfl ?_) | (refine r_store 2 rfl rfl rfl TD.sz90 rfl rfl rfl ?_)
  refine awl_nil ?_
  refine x_then ?_
  refine awp_seq ?_
  refine awp_region ?_
  refine r_move rfl rfl ?_
  refine r_loadAb 0 rfl rfl TD.agg90 TD.sz90 rfl rfl ?_
  first | (refine r_lookupOkK 0 keyPD (ev := numA) (k := x.pl) 0 rfl rfl rfl (isVal_pl x.pl) TD.map87 TD.zav31 rfl ?_) | (refine r_lookupOkK 1 keyPD (ev := numA) (k := x.pl) 0 rfl rfl rfl (isVal_pl x.pl) TD.map87 TD.zav31 rfl ?_) | (refine r_lookupOkK 2 keyPD (ev := numA) (k := x.pl) 0 rfl rfl rfl (isVal_pl x.pl) TD.map87 TD.zav31 rfl ?_)
  refine r_move rfl rfl ?_
  refine r_extract rfl rfl rfl ?_
  refine r_extract rfl rfl rfl ?_
  refine r_assign rfl rfl ?_
  refine r_assign rfl rfl ?_
  refine awl_nil ?_
  refine x_then ?_
  refine awp_seq ?_
  refine awp_region ?_
  refine r_move rfl rfl ?_
  refine r_not rfl rfl ?_
  refine awl_nil ?_
  refine x_then ?_
  refine awp_cond rfl (fun hc1 => ?_) (fun hc1 => ?_)
  ·
   have hg : (mget m x.pl).isSome = false := by simpa using hc1
   refine awp_region ?_
   refine r_move rfl rfl ?_
   refine r_loadAb 0 rfl rfl TD.agg90 TD.sz90 rfl rfl ?_
   first | (refine r_fieldpt rfl TD.f57_2 TD.sz31 rfl ?_) | (refine r_fieldcp rfl TD.f57_2 TD.sz31 rfl ?_) | (refine r_fieldb rfl TD.f57_2 TD.sz31 rfl ?_)
   refine r_load1b 1 rfl rfl rfl TD.agg31 rfl ?_
   first | (refine r_mapUpdateK 0 keyPD (ev := numA) (k := x.pl) x.num rfl rfl rfl (isVal_pl x.pl) rfl rfl TD.map87 ?_) | (refine r_mapUpdateK 1 keyPD (ev := numA) (k := x.pl) x.num rfl rfl rfl (isVal_pl x.pl) rfl rfl TD.map87 ?_) | (refine r_mapUpdateK 2 keyPD (ev := numA) (k := x.pl) x.num rfl rfl rfl (isVal_pl x.pl) rfl rfl TD.map87 ?_)
   refine awl_nil ?_
   refine x_block ?_
   refine x_then ?_
   refine awp_region ?_
   refine r_ari _ rfl rfl rfl (wrap_id (by first | omega | (simp; omega))) rfl ?_
   refine r_move rfl rfl ?_
   refine awl_nil ?_
   refine x_then ?_
   refine ⟨l.length - (k + 1), ⟨35, [(3, .a (.v (.map (some b9)))), (10, .a (entsA l)), (11, .a (.v (.int .i64 ((l.map Ent.cs).length)))), (12, .a (.v (.int .i64 (((k + 1) : Int)))))], [⟨b9, true, .map (encM ekP numA (mset m x.pl x.num))⟩]⟩, ⟨rfl, (Slots.cons rfl (by first | exact .refl _ | exact .nilOwn _ _ | exact .nilSl _ | exact .ownSl _ _ _  | exact SV.le.of_eq (by simp)) (Slots.cons rfl (by first | exact .refl _ | exact .nilOwn _ _ | exact .nilSl _ | exact .ownSl _ _ _  | exact SV.le.of_eq (by simp)) (Slots.cons rfl (by first | exact .refl _ | exact .nilOwn _ _ | exact .nilSl _ | exact .ownSl _ _ _  | exact SV.le.of_eq (by simp)) (Slots.cons rfl (by first | exact .refl _ | exact .nilOwn _ _ | exact .nilSl _ | exact .ownSl _ _ _  | exact SV.le.of_eq (by simp)) Slots.nil)))), (by first | exact List.Sublist.refl _ | exact .cons_cons _ (.cons _ (.refl _)) | exact List.nil_sublist _ | exact .cons _ (.refl _) | exact .cons _ (.cons _ (.refl _)) | exact .cons _ (.cons _ (.cons _ (.refl _))) | exact .cons _ (.cons _ (.cons _ (.cons _ (.refl _)))) | exact .cons_cons _ (List.nil_sublist _))⟩, (by omega), ⟨k + 1, mset m x.pl x.num, rfl, rfl, (by omega), (tells_new ht hx hg)⟩⟩
  ·
   have hg : (mget m x.pl).isSome = true := by simpa using hc1
   refine awp_skip ?_
   refine x_block ?_
   refine x_then ?_
   refine awp_region ?_
   refine r_ari _ rfl rfl rfl (wrap_id (by first | omega | (simp; omega))) rfl ?_
   refine r_move rfl rfl ?_
   refine awl_nil ?_
   refine x_then ?_
   refine ⟨l.length - (k + 1), ⟨35, [(3, .a (.v (.map (some b9)))), (10, .a (entsA l)), (11, .a (.v (.int .i64 ((l.map Ent.cs).length)))), (12, .a (.v (.int .i64 (((k + 1) : Int)))))], [⟨b9, true, .map (encM ekP numA (m))⟩]⟩, ⟨rfl, (Slots.cons rfl (by first | exact .refl _ | exact .nilOwn _ _ | exact .nilSl _ | exact .ownSl _ _ _  | exact SV.le.of_eq (by simp)) (Slots.cons rfl (by first | exact .refl _ | exact .nilOwn _ _ | exact .nilSl _ | exact .ownSl _ _ _  | exact SV.le.of_eq (by simp)) (Slots.cons rfl (by first | exact .refl _ | exact .nilOwn _ _ | exact .nilSl _ | exact .ownSl _ _ _  | exact SV.le.of_eq (by simp)) (Slots.cons rfl (by first | exact .refl _ | exact .nilOwn _ _ | exact .nilSl _ | exact .ownSl _ _ _  | exact SV.le.of_eq (by simp)) Slots.nil)))), (by first | exact List.Sublist.refl _ | exact .cons_cons _ (.cons _ (.refl _)) | exact List.nil_sublist _ | exact .cons _ (.refl _) | exact .cons _ (.cons _ (.refl _)) | exact .cons _ (.cons _ (.cons _ (.refl _))) | exact .cons _ (.cons _ (.cons _ (.cons _ (.refl _)))) | exact .cons_cons _ (List.nil_sublist _))⟩, (by omega), ⟨k + 1, m, rfl, rfl, (by omega), (tells_has ht hx hg)⟩⟩
 ·
  have hge : l.length ≤ k := by have := of_decide_eq_false hc0; simp at this; omega
  rw [List.take_of_length_le hge] at ht
  refine awp_exit ?_
  refine x_thenE ?_
  refine x_thenE ?_
  refine x_blockE ?_
  refine x_then ?_
  refine awp_seq ?_
  refine awp_region ?_
  refine r_move rfl rfl ?_
  refine r_assign rfl rfl ?_
  refine awl_nil ?_
  refine x_then ?_
  refine awp_ret ?_
  exact ⟨(.inl rfl), _, [⟨b9, true, .map (encM ekP numA m)⟩], (.one (by first | exact .mk rfl rfl | exact .nil rfl)), ⟨b9, m, rfl, rfl, ht⟩, (by first | exact List.Sublist.refl _ | exact .cons_cons _ (.cons _ (.refl _)) | exact List.nil_sublist _ | exact .cons _ (.refl _) | exact .cons _ (.cons _ (.refl _)) | exact .cons _ (.cons _ (.cons _ (.refl _))) | exact .cons _ (.cons _ (.cons _ (.cons _ (.refl _)))) | exact .cons_cons _ (List.nil_sublist _)), (by simp)⟩
end Go.Proofs.Ytpkodkoooaldlaa.A

import Derived.WalkKit
import Derived.Below
import Derived.Laws.Rows
import Derived.Laws.CopyRow
import Derived.Laws.AppendOwn
import Derived.RangeFuncLeaves
import Derived.RangeFuncSeq
import Derived.RangeFuncCalls
import Derived.MapKept
import Derived.Orders
import Derived.Laws.IdiomStrings
import Derived.Laws.BytesArg
import Derived.Shelf.SlIter.Nil
import Derived.RangeFuncBound
import Derived.Maps.RangeRun
import Derived.DeepKeys3
import Derived.Laws.StructEq
import Derived.Shelf.SlSortCmp.NoneTotal
import Derived.ChangeKeysEq
import Derived.Laws.MakeOwn
import Derived.ChangeArms
import Derived.ChangeOld
import Derived.Laws.DeepStrings4
import Derived.OpenShut
import Derived.Test.YtpkodkoooaldlaaProg
import Derived.KernelRfl
import Derived.OrdersIn
import Derived.Lib.AppendZeros
import Derived.Lib.AppendZerosOnto
import Derived.Lib.Overlaps
import Derived.Deep.AppendSrc
import Derived.Scope
import Derived.Shelf.SlGeneric
import Derived.Ground.SlsfProg
import Derived.Ground.SlmcProg
import Derived.Shelf.SlMaps.Clone
import Derived.Test.YtpkodkoooaldlaaM5
namespace Go.Proofs.Ytpkodkoooaldlaa.A
open Go Go.RowKit
set_option linter.unusedVariables false
set_option linter.unusedSimpArgs false
set_option maxRecDepth 100000
theorem TD.en29 : entersT Try.prog 29 := enters_of Try.func29 (by kernel_rfl) (by kernel_rfl)
theorem TD.en31 : entersT Try.prog 31 := enters_of Try.func31 (by kernel_rfl) (by kernel_rfl)
theorem TD.en32 : entersT Try.prog 32 := enters_of Try.func32 (by kernel_rfl) (by kernel_rfl)
theorem TD.en30 : entersT Try.prog 30 := enters_of Try.func30 (by kernel_rfl) (by kernel_rfl)
theorem TD.pl42 : placesT Try.prog 42 = some [(0, 1), (1, 1), (2, 1), (3, 1)] := by kernel_rfl
theorem TD.zero42 : ZeroT Try.prog 42 [.v (.int .i64 0), .v (.int .i64 0), .v (.int .u64 0), .v (.int .u64 0)] := ⟨[(.int .i64 0), (.int .i64 0), (.int .u64 0), (.int .u64 0)], by kernel_rfl, (LeCells.refl _)⟩
theorem TD.sl37 : sliceT Try.prog 37 = some 42 := by kernel_rfl
theorem TD.sz42 : szT Try.prog 42 = some 4 := by kernel_rfl
theorem TD.zraw42 : zeroT Try.prog 42 = some [(.int .i64 0), (.int .i64 0), (.int .u64 0), (.int .u64 0)] := by kernel_rfl
theorem TD.by42 : bytesT Try.prog 42 = some 32 := by kernel_rfl
theorem TD.zlen42 : (zeroT Try.prog 42).map (·.length) = some 4 := by kernel_rfl
theorem TD.agg42 : aggT Try.prog 42 = some true := by kernel_rfl
theorem TD.f42_0 : fieldT Try.prog 42 0 = some (0, 3) := by kernel_rfl
theorem TD.f42_1 : fieldT Try.prog 42 1 = some (1, 3) := by kernel_rfl
theorem TD.f42_2 : fieldT Try.prog 42 2 = some (2, 31) := by kernel_rfl
theorem TD.f42_3 : fieldT Try.prog 42 3 = some (3, 31) := by kernel_rfl
theorem TD.pl57 : placesT Try.prog 57 = some [(0, 1), (1, 1), (2, 1)] := by kernel_rfl
theorem TD.zraw57 : zeroT Try.prog 57 = some [(.int .i64 0), (.int .i64 0), (.int .u64 0)] := by kernel_rfl
theorem TD.by57 : bytesT Try.prog 57 = some 24 := by kernel_rfl
theorem TD.zlen57 : (zeroT Try.prog 57).map (·.length) = some 3 := by kernel_rfl
set_option maxHeartbeats 1000000 in
theorem entries_ok (a b : List Ent) (hla : a.length ≤ 1000) (hlb : b.length ≤ 1000) : AC Try.prog 17 [entsA a, entsA b] [] (fun r n => n = [] ∧ r = chgsA (entriesF a b)) := by
 refine ac_of_awp (rs := [4]) (nt := 50) Try.func17 rfl rfl rfl rfl (fun w0 C0 hq => ?_)
 refine awp_seq ?_
 refine awp_region ?_
 refine r_assign rfl rfl ?_
 refine awl_nil ?_
 refine x_then ?_
 refine awp_seq ?_
 refine awp_region ?_
 refine r_move rfl rfl ?_
 refine r_callO hq rfl rfl (.cons (.ev rfl rfl) .nil) (told_map a (by omega)) rfl TD.en29 (List.nil_sublist _) rfl (fun r nobjs hr => ?_)
 obtain ⟨bx, mx, rfl, rfl, htx⟩ := hr
 refine r_move rfl rfl ?_
 refine r_callO hq rfl rfl (.cons (.ev rfl rfl) .nil) (told_map b (by omega)) rfl TD.en29 (List.nil_sublist _) rfl (fun r nobjs hr => ?_)
 obtain ⟨by_, my, rfl, rfl, hty⟩ := hr
 refine r_assign rfl rfl ?_
 refine r_assign rfl rfl ?_
 refine awl_nil ?_
 refine x_then ?_
 refine awp_seq ?_
 refine awp_region ?_
 refine r_move rfl rfl ?_
 refine r_callO hq rfl rfl (.cons (.ev rfl rfl) .nil) (clone31 (es := encM ekP numA mx)) rfl TD.en31 (.cons _ (.refl _)) rfl (fun r nobjs hr => ?_)
 obtain ⟨bz, rfl, rfl⟩ := hr
 refine r_assign rfl rfl ?_
 refine awl_nil ?_
 refine x_then ?_
 refine awp_seq ?_
 refine awp_region ?_
 refine r_move rfl rfl ?_
 refine r_move rfl rfl ?_
 refine r_callW hq [true, false, false] rfl rfl (.cons (.ev rfl rfl) (.cons (.ev rfl rfl) .nil)) (copy_okD mx my) rfl TD.en32 rfl rfl (.cons_cons _ (List.nil_sublist _)) rfl (fun r nobjs hr => ?_)
 obtain ⟨rfl, es, hes, rfl⟩ := hr
 have hall : AllOf (List.foldl (fun (m : List (PL × Int)) (e : PL × Int) => mset m e.1 e.2) mx es) [a, b] := tells_step (tells_all htx hla) hes hty hlb
 have hml : (List.foldl (fun (m : List (PL × Int)) (e : PL × Int) => mset m e.1 e.2) mx es).length ≤ 1000000 := by have := hall.len; simp at this; omega
 refine awl_nil ?_
 refine x_then ?_
 refine awp_seq ?_
 refine awp_region ?_
 refine r_assign rfl rfl ?_
 refine awl_nil ?_
 refine x_then ?_
 refine awp_seq ?_
 refine awp_seq ?_
 refine awp_region ?_
 refine r_move rfl rfl ?_
 refine r_callO hq rfl rfl (.cons (.ev rfl rfl) .nil) (order_ok (List.foldl (fun (m : List (PL × Int)) (e : PL × Int) => mset m e.1 e.2) mx es) hml) rfl TD.en30 (.cons_cons _ (List.nil_sublist _)) rfl (fun r nobjs hr => ?_)
 obtain ⟨rfl, kl, hkl, hr2⟩ := hr
 rw [allOf_places hall hkl] at hr2
 obtain ⟨pl, hpl⟩ : ∃ pl, pl = placesF [a, b] := ⟨_, rfl⟩
 rw [← hpl] at hr2
 obtain rfl := hr2
 have hpll : pl.length ≤ 2000 := by rw [hpl]; have := places_len [a, b]; simp at this; omega
 first | (refine r_lenS rfl rfl TD.sl91 rfl ?_) | (refine r_lenNil rfl TD.sl91 rfl ?_) | (refine r_lenV rfl TD.sl91 rfl ?_)
 refine r_move rfl rfl ?_
 refine awl_nil ?_
 refine x_then ?_
 refine awp_block ?_
 refine awp_loop (fun nn0 S => ∃ k : Nat, S = ⟨50, [(5, .a (.v (.map (some bx)))), (6, .a (.v (.map (some by_)))), (8, .own 8 4 (((pl.take k).filterMap (chgAt a b)).map Chg.cs)), (21, .a (plsA pl)), (22, .a (.v (.int .i64 ((pl.map PL.cs).length)))), (23, .a (.v (.int .i64 ((k : Int)))))], [⟨bz, true, .map (encM ekP numA (List.foldl (fun (m : List (PL × Int)) (e : PL × Int) => mset m e.1 e.2) mx es))⟩, ⟨by_, true, .map (encM ekP numA my)⟩, ⟨bx, true, .map (encM ekP numA mx)⟩]⟩ ∧ nn0 = pl.length - k ∧ (k ≤ pl.length)) (pl.length - (0)) ⟨50, [(5, .a (.v (.map (some bx)))), (6, .a (.v (.map (some by_)))), (8, .own 8 4 (((pl.take (0)).filterMap (chgAt a b)).map Chg.cs)), (21, .a (plsA pl)), (22, .a (.v (.int .i64 ((pl.map PL.cs).length)))), (23, .a (.v (.int .i64 (((0) : Int)))))], [⟨bz, true, .map (encM ekP numA (List.foldl (fun (m : List (PL × Int)) (e : PL × Int) => mset m e.1 e.2) mx es))⟩, ⟨by_, true, .map (encM ekP numA my)⟩, ⟨bx, true, .map (encM ekP numA mx)⟩]⟩ ⟨rfl, (Slots.cons rfl (by first | exact .refl _ | exact .nilOwn _ _ | exact .nilSl _ | exact .ownSl _ _ _  | exact SV.le.of_eq (by simp)) (Slots.cons rfl (by first | exact .refl _ | exact .nilOwn _ _ | exact .nilSl _ | exact .ownSl _ _ _  | exact SV.le.of_eq (by simp)) (Slots.cons rfl (by first | exact .refl _ | exact .nilOwn _ _ | exact .nilSl _ | exact .ownSl _ _ _  | exact SV.le.of_eq (by simp)) (Slots.cons rfl (by first | exact .refl _ | exact .nilOwn _ _ | exact .nilSl _ | exact .ownSl _ _ _  | exact SV.le.of_eq (by simp)) (Slots.cons rfl (by first | exact .refl _ | exact .nilOwn _ _ | exact .nilSl _ | exact .ownSl _ _ _  | exact SV.le.of_eq (by simp)) (Slots.cons rfl (by first | exact .refl _ | exact .nilOwn _ _ | exact .nilSl _ | exact .ownSl _ _ _  | exact SV.le.of_eq (by simp)) Slots.nil)))))), (by first | exact List.Sublist.refl _ | exact .cons_cons _ (.cons _ (.refl _)) | exact List.nil_sublist _ | exact .cons _ (.refl _) | exact .cons _ (.cons _ (.refl _)) | exact .cons _ (.cons _ (.cons _ (.refl _))) | exact .cons _ (.cons _ (.cons _ (.cons _ (.refl _)))) | exact .cons_cons _ (List.nil_sublist _))⟩ ⟨0, rfl, rfl, Nat.zero_le _⟩ ?_
 rintro nn0 _ ⟨k, rfl, rfl, hk⟩
 refine awp_seq ?_
 refine awp_region ?_
 refine r_cmp rfl rfl rfl rfl ?_
 refine awl_nil ?_
 refine x_then ?_
 refine awp_seq ?_
 refine awp_cond rfl (fun hc0 => ?_) (fun hc0 => ?_)
 ·
  have hlt : k < pl.length := by have := of_decide_eq_true hc0; simpa using this
  obtain ⟨p, hp⟩ := get_lt hlt
  have hf : ((pl.take k).filterMap (chgAt a b)).length ≤ k := Nat.le_trans (List.length_filterMap_le _ _) (by simp; omega)
  refine awp_skip ?_
  refine x_then ?_
  refine awp_seq ?_
  refine awp_block ?_
  refine awp_seq ?_
  refine awp_region ?_
  refine r_index rfl rfl rfl TD.sl91 TD.sz90 (by omega) (get_map hp) rfl ?_
  first | (refine r_loadA rfl TD.agg90 TD.sz90 rfl rfl ?_) | (refine r_loadAb 0 rfl rfl TD.agg90 TD.sz90 rfl rfl ?_) | (refine r_loadAb 1 rfl rfl TD.agg90 TD.sz90 rfl rfl ?_) | (refine r_loadAb 2 rfl rfl TD.agg90 TD.sz90 rfl rfl ?_)
  refine r_alloc TD.zero90 rfl (fun b10 => ?_)
  first | (refine r_store 0 rfl rfl rfl TD.sz90 rfl rfl rfl ?_) | (refine r_store 1 rfl rfl rfl TD.sz90 rfl rfl rfl ?_) | (refine r_store 2 rfl rfl rfl TD.sz90 rfl rfl rfl ?_) | (refine r_store 3 rfl rfl rfl TD.sz90 rfl rfl rfl ?_)
  refine awl_nil ?_
  refine x_then ?_
  refine awp_seq ?_
  refine awp_drawS [27, 28, 29, 30, 31, 32] [_, _, _, _, _, _] [] [] TD.mixed rfl rfl rfl ⟨⟨⟨⟨⟨⟨trivial
   , ⟨_, rfl, fun sl hd hr ho => by
     refine r_move (hr 5 _ rfl rfl rfl) rfl ?_
     exact awl_nil ⟨rfl, post_put⟩⟩⟩
   , ⟨_, rfl, fun sl hd hr ho => by
     refine r_loadAb 0 (hr 10 _ rfl rfl rfl) rfl TD.agg90 TD.sz90 rfl rfl ?_
     exact awl_nil ⟨rfl, post_put⟩⟩⟩
   , ⟨_, rfl, fun sl hd hr ho => by
     refine r_lookupK 3 keyPD (ev := numA) (k := p) 0 (hd 0 _ rfl rfl rfl) rfl (hd 1 _ rfl rfl rfl) (isVal_pl p) TD.map87 TD.zav31 rfl ?_
     exact awl_nil ⟨rfl, post_put⟩⟩⟩
   , ⟨_, rfl, fun sl hd hr ho => by
     refine r_move (hr 6 _ rfl rfl rfl) rfl ?_
     exact awl_nil ⟨rfl, post_put⟩⟩⟩
   , ⟨_, rfl, fun sl hd hr ho => by
     refine r_loadAb 0 (hr 10 _ rfl rfl rfl) rfl TD.agg90 TD.sz90 rfl rfl ?_
     exact awl_nil ⟨rfl, post_put⟩⟩⟩
   , ⟨_, rfl, fun sl hd hr ho => by
     refine r_lookupK 2 keyPD (ev := numA) (k := p) 0 (hd 3 _ rfl rfl rfl) rfl (hd 4 _ rfl rfl rfl) (isVal_pl p) TD.map87 TD.zav31 rfl ?_
     exact awl_nil ⟨rfl, post_put⟩⟩⟩
   (by rfl) ?_
  refine r_cmp rfl rfl rfl rfl ?_
  refine awl_nil ?_
  refine x_then ?_
  refine awp_cond rfl (fun hc1 => ?_) (fun hc1 => ?_)
  ·
   have hne : ¬ shows a p = shows b p := by rw [← tells_shows htx, ← tells_shows hty]; simpa using hc1
   have ht : chgAt a b p = some ⟨p.1, p.2, (mget mx p).getD 0, (mget my p).getD 0⟩ := by rw [chgAt, if_neg hne, tells_shows htx, tells_shows hty]
   refine awp_drawS [34, 35, 36, 37, 38, 39, 40, 41, 42, 43, 44, 45, 46] [_, _, _, _, _, _, _, _, _, _, _, _, _] [] [(12, 46)] TD.mixed rfl rfl rfl ⟨⟨⟨⟨⟨⟨⟨⟨⟨⟨⟨⟨⟨trivial
    , ⟨_, rfl, fun sl hd hr ho => by
      refine r_move (hr 8 _ rfl rfl rfl) rfl ?_
      exact awl_nil ⟨rfl, post_put⟩⟩⟩
    , ⟨_, rfl, fun sl hd hr ho => by
      refine r_indexArrB (hr 10 _ rfl rfl rfl) rfl TD.un90 TD.sz3 (by decide) (by decide) rfl ?_
      exact awl_nil ⟨rfl, post_put⟩⟩⟩
    , ⟨_, rfl, fun sl hd hr ho => by
      refine r_load1b 0 (hd 1 _ rfl rfl rfl) rfl rfl TD.agg3 rfl ?_
      exact awl_nil ⟨rfl, post_put⟩⟩⟩
    , ⟨_, rfl, fun sl hd hr ho => by
      refine r_indexArrB (hr 10 _ rfl rfl rfl) rfl TD.un90 TD.sz3 (by decide) (by decide) rfl ?_
      exact awl_nil ⟨rfl, post_put⟩⟩⟩
    , ⟨_, rfl, fun sl hd hr ho => by
      refine r_load1b 0 (hd 3 _ rfl rfl rfl) rfl rfl TD.agg3 rfl ?_
      exact awl_nil ⟨rfl, post_put⟩⟩⟩
    , ⟨_, rfl, fun sl hd hr ho => by
      refine r_move (hr 5 _ rfl rfl rfl) rfl ?_
      exact awl_nil ⟨rfl, post_put⟩⟩⟩
    , ⟨_, rfl, fun sl hd hr ho => by
      refine r_loadAb 0 (hr 10 _ rfl rfl rfl) rfl TD.agg90 TD.sz90 rfl rfl ?_
      exact awl_nil ⟨rfl, post_put⟩⟩⟩
    , ⟨_, rfl, fun sl hd hr ho => by
      refine r_lookupK 3 keyPD (ev := numA) (k := p) 0 (hd 5 _ rfl rfl rfl) rfl (hd 6 _ rfl rfl rfl) (isVal_pl p) TD.map87 TD.zav31 rfl ?_
      exact awl_nil ⟨rfl, post_put⟩⟩⟩
    , ⟨_, rfl, fun sl hd hr ho => by
      refine r_move (hr 6 _ rfl rfl rfl) rfl ?_
      exact awl_nil ⟨rfl, post_put⟩⟩⟩
    , ⟨_, rfl, fun sl hd hr ho => by
      refine r_loadAb 0 (hr 10 _ rfl rfl rfl) rfl TD.agg90 TD.sz90 rfl rfl ?_
      exact awl_nil ⟨rfl, post_put⟩⟩⟩
    , ⟨_, rfl, fun sl hd hr ho => by
      refine r_lookupK 2 keyPD (ev := numA) (k := p) 0 (hd 8 _ rfl rfl rfl) rfl (hd 9 _ rfl rfl rfl) (isVal_pl p) TD.map87 TD.zav31 rfl ?_
      exact awl_nil ⟨rfl, post_put⟩⟩⟩
    , ⟨_, rfl, fun sl hd hr ho => by
      refine r_build (parts := [(0, .tmp 36), (1, .tmp 38), (2, .tmp 41), (3, .tmp 44)]) rfl TD.pl42 TD.zero42 (parts_cons (hd 2 _ rfl rfl rfl) (parts_cons (hd 4 _ rfl rfl rfl) (parts_cons (hd 7 _ rfl rfl rfl) (parts_cons (hd 10 _ rfl rfl rfl) parts_nil)))) rfl rfl ?_
      exact awl_nil ⟨rfl, post_put⟩⟩⟩
    , ⟨_, rfl, fun sl hd hr ho => by
      refine r_lit 46 (parts := [(0, .tmp 45)]) rfl TD.sl37 TD.sz42 TD.zraw42 rfl rfl (parts_cons (hd 11 _ rfl rfl rfl) parts_nil) rfl rfl rfl rfl ?_
      exact awl_nil ⟨rfl, (post_dem (ho 46 (List.mem_of_elem_eq_true rfl)))⟩⟩⟩
    (by rfl) ?_
   refine r_append 8 rfl (by first | exact .own _ | exact .nil) rfl (by first | exact .sl _ | exact .own _ _ | exact .nil) TD.sl37 TD.sz42 (by decide) TD.by42 TD.zlen42 (by simp [chunks] <;> omega) (by simp [chunks] <;> omega) rfl ?_
   refine r_assign rfl rfl ?_
   refine awl_nil ?_
   refine x_block ?_
   refine x_then ?_
   refine awp_region ?_
   refine r_ari _ rfl rfl rfl (wrap_id (by first | omega | (simp; omega))) rfl ?_
   refine r_move rfl rfl ?_
   refine awl_nil ?_
   refine x_then ?_
   have et := fm_step (f := chgAt a b) hp
   rw [ht] at et
   simp only [Option.toList_some, Option.toList_none, List.append_nil] at et
   refine ⟨pl.length - (k + 1), ⟨50, [(5, .a (.v (.map (some bx)))), (6, .a (.v (.map (some by_)))), (8, .own 8 4 (((pl.take (k + 1)).filterMap (chgAt a b)).map Chg.cs)), (21, .a (plsA pl)), (22, .a (.v (.int .i64 ((pl.map PL.cs).length)))), (23, .a (.v (.int .i64 (((k + 1) : Int)))))], [⟨bz, true, .map (encM ekP numA (List.foldl (fun (m : List (PL × Int)) (e : PL × Int) => mset m e.1 e.2) mx es))⟩, ⟨by_, true, .map (encM ekP numA my)⟩, ⟨bx, true, .map (encM ekP numA mx)⟩]⟩, ⟨rfl, (Slots.cons rfl (by first | exact .refl _ | exact .nilOwn _ _ | exact .nilSl _ | exact .ownSl _ _ _  | exact SV.le.ownEq (by first | rfl | (rw [et, List.map_append]; rfl) | (rw [et]; first | done | rfl)) | exact SV.le.of_eq (by first | rfl | (rw [et, List.map_append]; rfl) | (rw [et]; first | done | rfl))) (Slots.cons rfl (by first | exact .refl _ | exact .nilOwn _ _ | exact .nilSl _ | exact .ownSl _ _ _  | exact SV.le.ownEq (by first | rfl | (rw [et, List.map_append]; rfl) | (rw [et]; first | done | rfl)) | exact SV.le.of_eq (by first | rfl | (rw [et, List.map_append]; rfl) | (rw [et]; first | done | rfl))) (Slots.cons rfl (by first | exact .refl _ | exact .nilOwn _ _ | exact .nilSl _ | exact .ownSl _ _ _  | exact SV.le.ownEq (by first | rfl | (rw [et, List.map_append]; rfl) | (rw [et]; first | done | rfl)) | exact SV.le.of_eq (by first | rfl | (rw [et, List.map_append]; rfl) | (rw [et]; first | done | rfl))) (Slots.cons rfl (by first | exact .refl _ | exact .nilOwn _ _ | exact .nilSl _ | exact .ownSl _ _ _  | exact SV.le.ownEq (by first | rfl | (rw [et, List.map_append]; rfl) | (rw [et]; first | done | rfl)) | exact SV.le.of_eq (by first | rfl | (rw [et, List.map_append]; rfl) | (rw [et]; first | done | rfl))) (Slots.cons rfl (by first | exact .refl _ | exact .nilOwn _ _ | exact .nilSl _ | exact .ownSl _ _ _  | exact SV.le.ownEq (by first | rfl | (rw [et, List.map_append]; rfl) | (rw [et]; first | done | rfl)) | exact SV.le.of_eq (by first | rfl | (rw [et, List.map_append]; rfl) | (rw [et]; first | done | rfl))) (Slots.cons rfl (by first | exact .refl _ | exact .nilOwn _ _ | exact .nilSl _ | exact .ownSl _ _ _  | exact SV.le.ownEq (by first | rfl | (rw [et, List.map_append]; rfl) | (rw [et]; first | done | rfl)) | exact SV.le.of_eq (by first | rfl | (rw [et, List.map_append]; rfl) | (rw [et]; first | done | rfl))) Slots.nil)))))), (by first | exact List.Sublist.refl _ | exact .cons_cons _ (.cons _ (.refl _)) | exact List.nil_sublist _ | exact .cons _ (.refl _) | exact .cons _ (.cons _ (.refl _)) | exact .cons _ (.cons _ (.cons _ (.refl _))) | exact .cons _ (.cons _ (.cons _ (.cons _ (.refl _)))) | exact .cons_cons _ (List.nil_sublist _))⟩, (by omega), ⟨k + 1, rfl, rfl, (by omega)⟩⟩
  ·
   have hne : shows a p = shows b p := by rw [← tells_shows htx, ← tells_shows hty]; simpa using hc1
   have ht : chgAt a b p = none := by rw [chgAt, if_pos hne]
   refine awp_skip ?_
   refine x_block ?_
   refine x_then ?_
   refine awp_region ?_
   refine r_ari _ rfl rfl rfl (wrap_id (by first | omega | (simp; omega))) rfl ?_
   refine r_move rfl rfl ?_
   refine awl_nil ?_
   refine x_then ?_
   have et := fm_step (f := chgAt a b) hp
   rw [ht] at et
   simp only [Option.toList_some, Option.toList_none, List.append_nil] at et
   refine ⟨pl.length - (k + 1), ⟨50, [(5, .a (.v (.map (some bx)))), (6, .a (.v (.map (some by_)))), (8, .own 8 4 (((pl.take (k + 1)).filterMap (chgAt a b)).map Chg.cs)), (21, .a (plsA pl)), (22, .a (.v (.int .i64 ((pl.map PL.cs).length)))), (23, .a (.v (.int .i64 (((k + 1) : Int)))))], [⟨bz, true, .map (encM ekP numA (List.foldl (fun (m : List (PL × Int)) (e : PL × Int) => mset m e.1 e.2) mx es))⟩, ⟨by_, true, .map (encM ekP numA my)⟩, ⟨bx, true, .map (encM ekP numA mx)⟩]⟩, ⟨rfl, (Slots.cons rfl (by first | exact .refl _ | exact .nilOwn _ _ | exact .nilSl _ | exact .ownSl _ _ _  | exact SV.le.ownEq (by first | rfl | (rw [et, List.map_append]; rfl) | (rw [et]; first | done | rfl)) | exact SV.le.of_eq (by first | rfl | (rw [et, List.map_append]; rfl) | (rw [et]; first | done | rfl))) (Slots.cons rfl (by first | exact .refl _ | exact .nilOwn _ _ | exact .nilSl _ | exact .ownSl _ _ _  | exact SV.le.ownEq (by first | rfl | (rw [et, List.map_append]; rfl) | (rw [et]; first | done | rfl)) | exact SV.le.of_eq (by first | rfl | (rw [et, List.map_append]; rfl) | (rw [et]; first | done | rfl))) (Slots.cons rfl (by first | exact .refl _ | exact .nilOwn _ _ | exact .nilSl _ | exact .ownSl _ _ _  | exact SV.le.ownEq (by first | rfl | (rw [et, List.map_append]; rfl) | (rw [et]; first | done | rfl)) | exact SV.le.of_eq (by first | rfl | (rw [et, List.map_append]; rfl) | (rw [et]; first | done | rfl))) (Slots.cons rfl (by first | exact .refl _ | exact .nilOwn _ _ | exact .nilSl _ | exact .ownSl _ _ _  | exact SV.le.ownEq (by first | rfl | (rw [et, List.map_append]; rfl) | (rw [et]; first | done | rfl)) | exact SV.le.of_eq (by first | rfl | (rw [et, List.map_append]; rfl) | (rw [et]; first | done | rfl))) (Slots.cons rfl (by first | exact .refl _ | exact .nilOwn _ _ | exact .nilSl _ | exact .ownSl _ _ _  | exact SV.le.ownEq (by first | rfl | (rw [et, List.map_append]; rfl) | (rw [et]; first | done | rfl)) | exact SV.le.of_eq (by first | rfl | (rw [et, List.map_append]; rfl) | (rw [et]; first | done | rfl))) (Slots.cons rfl (by first | exact .refl _ | exact .nilOwn _ _ | exact .nilSl _ | exact .ownSl _ _ _  | exact SV.le.ownEq (by first | rfl | (rw [et, List.map_append]; rfl) | (rw [et]; first | done | rfl)) | exact SV.le.of_eq (by first | rfl | (rw [et, List.map_append]; rfl) | (rw [et]; first | done | rfl))) Slots.nil)))))), (by first | exact List.Sublist.refl _ | exact .cons_cons _ (.cons _ (.refl _)) | exact List.nil_sublist _ | exact .cons _ (.refl _) | exact .cons _ (.cons _ (.refl _)) | exact .cons _ (.cons _ (.cons _ (.refl _))) | exact .cons _ (.cons _ (.cons _ (.cons _ (.refl _)))) | exact .cons_cons _ (List.nil_sublist _))⟩, (by omega), ⟨k + 1, rfl, rfl, (by omega)⟩⟩
 ·
  have hge : pl.length ≤ k := by have := of_decide_eq_false hc0; simp at this; omega
  have hkl2 : pl.take k = pl := List.take_of_length_le hge
  refine awp_exit ?_
  refine x_thenE ?_
  refine x_thenE ?_
  refine x_blockE ?_
  refine x_then ?_
  refine awp_seq ?_
  refine awp_region ?_
  refine r_move rfl rfl ?_
  refine r_assign rfl rfl ?_
  refine awl_nil ?_
  refine x_then ?_
  refine awp_ret ?_
  exact ⟨(.inl rfl), _, [], (.one (by first | exact .mk rfl rfl | exact .nil rfl)), ⟨rfl, by rw [hkl2, hpl]; rfl⟩, (List.nil_sublist _), (by simp)⟩
set_option maxHeartbeats 1000000 in
theorem apply_ok (l : List Ent) (d : List Chg) (hll : l.length ≤ 1000) (hld : d.length ≤ 1000) : AC Try.prog 15 [entsA l, chgsA d] [] (fun r n => n = [] ∧ ((∃ l', applyF l d = some l' ∧ r = .tup [entsA (cleanF l'), .v (.int .i64 0)]) ∨ (applyF l d = none ∧ r = .tup [.v (.slice none 0 0), .v (.int .i64 7)]))) := by
 refine ac_of_awp (rs := [4, 5]) (nt := 61) Try.func15 rfl rfl rfl rfl (fun w0 C0 hq => ?_)
 refine awp_seq ?_
 refine awp_region ?_
 refine r_assign rfl rfl ?_
 refine r_assign rfl rfl ?_
 refine awl_nil ?_
 refine x_then ?_
 refine awp_seq ?_
 refine awp_region ?_
 refine r_move rfl rfl ?_
 refine r_callO hq rfl rfl (.cons (.ev rfl rfl) .nil) (told_map l (by omega)) rfl TD.en29 (List.nil_sublist _) rfl (fun r nobjs hr => ?_)
 obtain ⟨bm, m0, rfl, rfl, ht0⟩ := hr
 refine r_assign rfl rfl ?_
 refine awl_nil ?_
 refine x_then ?_
 refine awp_seq ?_
 refine awp_seq ?_
 refine awp_region ?_
 refine r_move rfl rfl ?_
 first | (refine r_lenS rfl rfl TD.sl37 rfl ?_) | (refine r_lenNil rfl TD.sl37 rfl ?_) | (refine r_lenV rfl TD.sl37 rfl ?_)
 refine r_move rfl rfl ?_
 refine awl_nil ?_
 refine x_then ?_
 refine awp_block ?_
 refine awp_loop (fun nn0 S => ∃ k : Nat, ∃ m : List (PL × Int), ∃ l' : List Ent, S = ⟨61, [(6, .a (.v (.map (some bm)))), (15, .a (chgsA d)), (16, .a (.v (.int .i64 ((d.map Chg.cs).length)))), (17, .a (.v (.int .i64 ((k : Int)))))], [⟨bm, true, .map (encM ekP numA m)⟩]⟩ ∧ nn0 = d.length - k ∧ (k ≤ d.length) ∧ (Tells m l') ∧ (applyF l (d.take k) = some l')) (d.length - (0)) ⟨61, [(6, .a (.v (.map (some bm)))), (15, .a (chgsA d)), (16, .a (.v (.int .i64 ((d.map Chg.cs).length)))), (17, .a (.v (.int .i64 (((0) : Int)))))], [⟨bm, true, .map (encM ekP numA (m0))⟩]⟩ ⟨rfl, (Slots.cons rfl (by first | exact .refl _ | exact .nilOwn _ _ | exact .nilSl _ | exact .ownSl _ _ _  | exact SV.le.of_eq (by simp)) (Slots.cons rfl (by first | exact .refl _ | exact .nilOwn _ _ | exact .nilSl _ | exact .ownSl _ _ _  | exact SV.le.of_eq (by simp)) (Slots.cons rfl (by first | exact .refl _ | exact .nilOwn _ _ | exact .nilSl _ | exact .ownSl _ _ _  | exact SV.le.of_eq (by simp)) (Slots.cons rfl (by first | exact .refl _ | exact .nilOwn _ _ | exact .nilSl _ | exact .ownSl _ _ _  | exact SV.le.of_eq (by simp)) Slots.nil)))), (by first | exact List.Sublist.refl _ | exact .cons_cons _ (.cons _ (.refl _)) | exact List.nil_sublist _ | exact .cons _ (.refl _) | exact .cons _ (.cons _ (.refl _)) | exact .cons _ (.cons _ (.cons _ (.refl _))) | exact .cons _ (.cons _ (.cons _ (.cons _ (.refl _)))) | exact .cons_cons _ (List.nil_sublist _))⟩ ⟨0, m0, l, rfl, rfl, Nat.zero_le _, ht0, rfl⟩ ?_
 rintro nn0 _ ⟨k, m, l', rfl, rfl, hk, ht, ha⟩
 refine awp_seq ?_
 refine awp_region ?_
 refine r_cmp rfl rfl rfl rfl ?_
 refine awl_nil ?_
 refine x_then ?_
 refine awp_seq ?_
 refine awp_cond rfl (fun hc0 => ?_) (fun hc0 => ?_)
 ·
  have hltx : k < d.length := by have := of_decide_eq_true hc0; simpa using this
  obtain ⟨x, hx⟩ := get_lt hltx
  refine awp_skip ?_
  refine x_then ?_
  refine awp_seq ?_
  refine awp_block ?_
  refine awp_seq ?_
  refine awp_region ?_
  refine r_index rfl rfl rfl TD.sl37 TD.sz42 (by omega) (get_map hx) rfl ?_
  first | (refine r_loadA rfl TD.agg42 TD.sz42 rfl rfl ?_) | (refine r_loadAb 0 rfl rfl TD.agg42 TD.sz42 rfl rfl ?_)
  refine r_alloc TD.zero42 rfl (fun b8 => ?_)
  first | (refine r_store 0 rfl rfl rfl TD.sz42 rfl rfl rfl ?_) | (refine r_store 1 rfl rfl rfl TD.sz42 rfl rfl rfl ?_)
  refine awl_nil ?_
  refine x_then ?_
  refine awp_seq ?_
  refine awp_region ?_
  first | (refine r_fieldcp rfl TD.f42_0 TD.sz3 rfl ?_) | (refine r_fieldpt rfl TD.f42_0 TD.sz3 rfl ?_) | (refine r_fieldb rfl TD.f42_0 TD.sz3 rfl ?_)
  refine r_load1b 0 rfl rfl rfl TD.agg3 rfl ?_
  first | (refine r_fieldcp rfl TD.f42_1 TD.sz3 rfl ?_) | (refine r_fieldpt rfl TD.f42_1 TD.sz3 rfl ?_) | (refine r_fieldb rfl TD.f42_1 TD.sz3 rfl ?_)
  refine r_load1b 0 rfl rfl rfl TD.agg3 rfl ?_
  refine r_buildArr (parts := [(0, .tmp 22), (1, .tmp 24)]) rfl TD.arr90 TD.sz3 TD.zero90 rfl rfl rfl ?_
  refine r_alloc TD.zero90 rfl (fun b9 => ?_)
  first | (refine r_store 0 rfl rfl rfl TD.sz90 rfl rfl rfl ?_) | (refine r_store 1 rfl rfl rfl TD.sz90 rfl rfl rfl ?_) | (refine r_store 2 rfl rfl rfl TD.sz90 rfl rfl rfl ?_)
  refine awl_nil ?_
  refine x_then ?_
  refine awp_seq ?_
  refine awp_seq ?_
  refine awp_drawS [26, 27, 28, 29, 30] [_, _, _, _, _] [] [] TD.mixed rfl rfl rfl ⟨⟨⟨⟨⟨trivial
   , ⟨_, rfl, fun sl hd hr ho => by
     refine r_move (hr 6 _ rfl rfl rfl) rfl ?_
     exact awl_nil ⟨rfl, post_put⟩⟩⟩
   , ⟨_, rfl, fun sl hd hr ho => by
     refine r_loadAb 0 (hr 9 _ rfl rfl rfl) rfl TD.agg90 TD.sz90 rfl rfl ?_
     exact awl_nil ⟨rfl, post_put⟩⟩⟩
   , ⟨_, rfl, fun sl hd hr ho => by
     first | (refine r_lookupK 0 keyPD (ev := numA) (k := x.pl) 0 (hd 0 _ rfl rfl rfl) rfl (hd 1 _ rfl rfl rfl) (isVal_pl x.pl) TD.map87 TD.zav31 rfl ?_) | (refine r_lookupK 1 keyPD (ev := numA) (k := x.pl) 0 (hd 0 _ rfl rfl rfl) rfl (hd 1 _ rfl rfl rfl) (isVal_pl x.pl) TD.map87 TD.zav31 rfl ?_) | (refine r_lookupK 2 keyPD (ev := numA) (k := x.pl) 0 (hd 0 _ rfl rfl rfl) rfl (hd 1 _ rfl rfl rfl) (isVal_pl x.pl) TD.map87 TD.zav31 rfl ?_)
     exact awl_nil ⟨rfl, post_put⟩⟩⟩
   , ⟨_, rfl, fun sl hd hr ho => by
     first | (refine r_fieldcp (hr 8 _ rfl rfl rfl) TD.f42_2 TD.sz31 rfl ?_) | (refine r_fieldpt (hr 8 _ rfl rfl rfl) TD.f42_2 TD.sz31 rfl ?_) | (refine r_fieldb (hr 8 _ rfl rfl rfl) TD.f42_2 TD.sz31 rfl ?_)
     exact awl_nil ⟨rfl, post_put⟩⟩⟩
   , ⟨_, rfl, fun sl hd hr ho => by
     refine r_load1b 1 (hd 3 _ rfl rfl rfl) rfl rfl TD.agg31 rfl ?_
     exact awl_nil ⟨rfl, post_put⟩⟩⟩
   (by rfl) ?_
  refine r_cmp rfl rfl rfl rfl ?_
  refine awl_nil ?_
  refine x_then ?_
  refine awp_cond rfl (fun hc1 => ?_) (fun hc1 => ?_)
  ·
   have hsx : ¬ shows l' x.pl = x.a := by rw [← tells_shows ht]; simpa using hc1
   refine awp_seq ?_
   refine awp_region ?_
   refine r_assign rfl rfl ?_
   refine r_assign rfl rfl ?_
   refine awl_nil ?_
   refine x_then ?_
   refine awp_ret ?_
   refine x_thenR ?_
   refine x_blockR ?_
   refine x_thenR ?_
   refine x_thenR ?_
   refine x_blockR ?_
   refine x_thenR ?_
   exact ⟨(.inl rfl), _, [], (.two (by first | exact .mk rfl rfl | exact .nil rfl) (by first | exact .mk rfl rfl | exact .nil rfl)), ⟨rfl, .inr ⟨apply_fail hx ha hsx, rfl⟩⟩, (List.nil_sublist _), (by simp)⟩
  ·
   have hsx : shows l' x.pl = x.a := by rw [← tells_shows ht]; simpa using hc1
   refine awp_skip ?_
   refine x_then ?_
   refine awp_region ?_
   refine r_move rfl rfl ?_
   refine r_loadAb 0 rfl rfl TD.agg90 TD.sz90 rfl rfl ?_
   first | (refine r_fieldcp rfl TD.f42_3 TD.sz31 rfl ?_) | (refine r_fieldpt rfl TD.f42_3 TD.sz31 rfl ?_) | (refine r_fieldb rfl TD.f42_3 TD.sz31 rfl ?_)
   refine r_load1b 1 rfl rfl rfl TD.agg31 rfl ?_
   first | (refine r_mapUpdateK 0 keyPD (ev := numA) (k := x.pl) x.b rfl rfl rfl (isVal_pl x.pl) rfl rfl TD.map87 ?_) | (refine r_mapUpdateK 1 keyPD (ev := numA) (k := x.pl) x.b rfl rfl rfl (isVal_pl x.pl) rfl rfl TD.map87 ?_) | (refine r_mapUpdateK 2 keyPD (ev := numA) (k := x.pl) x.b rfl rfl rfl (isVal_pl x.pl) rfl rfl TD.map87 ?_)
   refine awl_nil ?_
   refine x_block ?_
   refine x_then ?_
   refine awp_region ?_
   refine r_ari _ rfl rfl rfl (wrap_id (by first | omega | (simp; omega))) rfl ?_
   refine r_move rfl rfl ?_
   refine awl_nil ?_
   refine x_then ?_
   refine ⟨d.length - (k + 1), ⟨61, [(6, .a (.v (.map (some bm)))), (15, .a (chgsA d)), (16, .a (.v (.int .i64 ((d.map Chg.cs).length)))), (17, .a (.v (.int .i64 (((k + 1) : Int)))))], [⟨bm, true, .map (encM ekP numA (mset m x.pl x.b))⟩]⟩, ⟨rfl, (Slots.cons rfl (by first | exact .refl _ | exact .nilOwn _ _ | exact .nilSl _ | exact .ownSl _ _ _  | exact SV.le.of_eq (by simp)) (Slots.cons rfl (by first | exact .refl _ | exact .nilOwn _ _ | exact .nilSl _ | exact .ownSl _ _ _  | exact SV.le.of_eq (by simp)) (Slots.cons rfl (by first | exact .refl _ | exact .nilOwn _ _ | exact .nilSl _ | exact .ownSl _ _ _  | exact SV.le.of_eq (by simp)) (Slots.cons rfl (by first | exact .refl _ | exact .nilOwn _ _ | exact .nilSl _ | exact .ownSl _ _ _  | exact SV.le.of_eq (by simp)) Slots.nil)))), (by first | exact List.Sublist.refl _ | exact .cons_cons _ (.cons _ (.refl _)) | exact List.nil_sublist _ | exact .cons _ (.refl _) | exact .cons _ (.cons _ (.refl _)) | exact .cons _ (.cons _ (.cons _ (.refl _))) | exact .cons _ (.cons _ (.cons _ (.cons _ (.refl _)))) | exact .cons_cons _ (List.nil_sublist _))⟩, (by omega), ⟨k + 1, mset m x.pl x.b, ⟨x.vol, x.blk, x.b⟩ :: l', rfl, rfl, (by omega), (tells_set ht ⟨x.vol, x.blk, x.b⟩), (apply_step hx ha hsx)⟩⟩
 ·
  have hge : d.length ≤ k := by have := of_decide_eq_false hc0; simp at this; omega
  have ha' := apply_end hge ha
  have hl'n := apply_len ha'
  have hml : m.length ≤ 1000000 := by have := ht.len; omega
  refine awp_exit ?_
  refine x_thenE ?_
  refine x_thenE ?_
  refine x_blockE ?_
  refine x_then ?_
  refine awp_seq ?_
  refine awp_region ?_
  refine r_assign rfl rfl ?_
  refine awl_nil ?_
  refine x_then ?_
  refine awp_seq ?_
  refine awp_seq ?_
  refine awp_region ?_
  refine r_move rfl rfl ?_
  refine r_callO hq rfl rfl (.cons (.ev rfl rfl) .nil) (order_ok m hml) rfl TD.en30 (.cons_cons _ (List.nil_sublist _)) rfl (fun r nobjs hr => ?_)
  obtain ⟨rfl, kl, hkl, hr2⟩ := hr
  rw [sort_keys (hkl.nodup_iff.2 ht.nd) (places_sorted [l']) (fun p => by rw [hkl.mem_iff, tells_mem ht, places_mem]; simp)] at hr2
  obtain ⟨pl, hpl⟩ : ∃ pl, pl = placesF [l'] := ⟨_, rfl⟩
  rw [← hpl] at hr2
  obtain rfl := hr2
  have hpll : pl.length ≤ 2000 := by rw [hpl]; have := places_len [l']; simp at this; omega
  first | (refine r_lenS rfl rfl TD.sl91 rfl ?_) | (refine r_lenNil rfl TD.sl91 rfl ?_) | (refine r_lenV rfl TD.sl91 rfl ?_)
  refine r_move rfl rfl ?_
  refine awl_nil ?_
  refine x_then ?_
  refine awp_block ?_
  refine awp_loop (fun nn0 S => ∃ k : Nat, S = ⟨61, [(6, .a (.v (.map (some bm)))), (10, .own 10 3 (((pl.take k).filterMap (cleanAt l')).map Ent.cs)), (38, .a (plsA pl)), (39, .a (.v (.int .i64 ((pl.map PL.cs).length)))), (40, .a (.v (.int .i64 ((k : Int)))))], [⟨bm, true, .map (encM ekP numA m)⟩]⟩ ∧ nn0 = pl.length - k ∧ (k ≤ pl.length)) (pl.length - (0)) ⟨61, [(6, .a (.v (.map (some bm)))), (10, .own 10 3 (((pl.take (0)).filterMap (cleanAt l')).map Ent.cs)), (38, .a (plsA pl)), (39, .a (.v (.int .i64 ((pl.map PL.cs).length)))), (40, .a (.v (.int .i64 (((0) : Int)))))], [⟨bm, true, .map (encM ekP numA m)⟩]⟩ ⟨rfl, (Slots.cons rfl (by first | exact .refl _ | exact .nilOwn _ _ | exact .nilSl _ | exact .ownSl _ _ _  | exact SV.le.of_eq (by simp)) (Slots.cons rfl (by first | exact .refl _ | exact .nilOwn _ _ | exact .nilSl _ | exact .ownSl _ _ _  | exact SV.le.of_eq (by simp)) (Slots.cons rfl (by first | exact .refl _ | exact .nilOwn _ _ | exact .nilSl _ | exact .ownSl _ _ _  | exact SV.le.of_eq (by simp)) (Slots.cons rfl (by first | exact .refl _ | exact .nilOwn _ _ | exact .nilSl _ | exact .ownSl _ _ _  | exact SV.le.of_eq (by simp)) (Slots.cons rfl (by first | exact .refl _ | exact .nilOwn _ _ | exact .nilSl _ | exact .ownSl _ _ _  | exact SV.le.of_eq (by simp)) Slots.nil))))), (by first | exact List.Sublist.refl _ | exact .cons_cons _ (.cons _ (.refl _)) | exact List.nil_sublist _ | exact .cons _ (.refl _) | exact .cons _ (.cons _ (.refl _)) | exact .cons _ (.cons _ (.cons _ (.refl _))) | exact .cons _ (.cons _ (.cons _ (.cons _ (.refl _)))) | exact .cons_cons _ (List.nil_sublist _))⟩ ⟨0, rfl, rfl, Nat.zero_le _⟩ ?_
  rintro nn0 _ ⟨k, rfl, rfl, hk⟩
  refine awp_seq ?_
  refine awp_region ?_
  refine r_cmp rfl rfl rfl rfl ?_
  refine awl_nil ?_
  refine x_then ?_
  refine awp_seq ?_
  refine awp_cond rfl (fun hc2 => ?_) (fun hc2 => ?_)
  ·
   have hlt : k < pl.length := by have := of_decide_eq_true hc2; simpa using this
   obtain ⟨p, hp⟩ := get_lt hlt
   have hf : ((pl.take k).filterMap (cleanAt l')).length ≤ k := Nat.le_trans (List.length_filterMap_le _ _) (by simp; omega)
   refine awp_skip ?_
   refine x_then ?_
   refine awp_seq ?_
   refine awp_block ?_
   refine awp_seq ?_
   refine awp_region ?_
   refine r_index rfl rfl rfl TD.sl91 TD.sz90 (by omega) (get_map hp) rfl ?_
   first | (refine r_loadA rfl TD.agg90 TD.sz90 rfl rfl ?_) | (refine r_loadAb 0 rfl rfl TD.agg90 TD.sz90 rfl rfl ?_)
   refine r_alloc TD.zero90 rfl (fun b12 => ?_)
   first | (refine r_store 0 rfl rfl rfl TD.sz90 rfl rfl rfl ?_) | (refine r_store 1 rfl rfl rfl TD.sz90 rfl rfl rfl ?_)
   refine awl_nil ?_
   refine x_then ?_
   refine awp_seq ?_
   refine awp_region ?_
   refine r_move rfl rfl ?_
   refine r_loadAb 0 rfl rfl TD.agg90 TD.sz90 rfl rfl ?_
   first | (refine r_lookupK 0 keyPD (ev := numA) (k := p) 0 rfl rfl rfl (isVal_pl p) TD.map87 TD.zav31 rfl ?_) | (refine r_lookupK 1 keyPD (ev := numA) (k := p) 0 rfl rfl rfl (isVal_pl p) TD.map87 TD.zav31 rfl ?_)
   refine r_cmp rfl rfl rfl rfl ?_
   refine awl_nil ?_
   refine x_then ?_
   refine awp_cond rfl (fun hc3 => ?_) (fun hc3 => ?_)
   ·
    have hne : ¬ shows l' p = 0 := by rw [← tells_shows ht]; simpa using hc3
    have hcl : cleanAt l' p = some ⟨p.1, p.2, (mget m p).getD 0⟩ := by rw [cleanAt, if_neg hne, tells_shows ht]
    refine awp_drawS [48, 49, 50, 51, 52, 53, 54, 55, 56, 57] [_, _, _, _, _, _, _, _, _, _] [] [(9, 57)] TD.mixed rfl rfl rfl ⟨⟨⟨⟨⟨⟨⟨⟨⟨⟨trivial
     , ⟨_, rfl, fun sl hd hr ho => by
       refine r_move (hr 10 _ rfl rfl rfl) rfl ?_
       exact awl_nil ⟨rfl, post_put⟩⟩⟩
     , ⟨_, rfl, fun sl hd hr ho => by
       refine r_indexArrB (hr 12 _ rfl rfl rfl) rfl TD.un90 TD.sz3 (by decide) (by decide) rfl ?_
       exact awl_nil ⟨rfl, post_put⟩⟩⟩
     , ⟨_, rfl, fun sl hd hr ho => by
       refine r_load1b 0 (hd 1 _ rfl rfl rfl) rfl rfl TD.agg3 rfl ?_
       exact awl_nil ⟨rfl, post_put⟩⟩⟩
     , ⟨_, rfl, fun sl hd hr ho => by
       refine r_indexArrB (hr 12 _ rfl rfl rfl) rfl TD.un90 TD.sz3 (by decide) (by decide) rfl ?_
       exact awl_nil ⟨rfl, post_put⟩⟩⟩
     , ⟨_, rfl, fun sl hd hr ho => by
       refine r_load1b 0 (hd 3 _ rfl rfl rfl) rfl rfl TD.agg3 rfl ?_
       exact awl_nil ⟨rfl, post_put⟩⟩⟩
     , ⟨_, rfl, fun sl hd hr ho => by
       refine r_move (hr 6 _ rfl rfl rfl) rfl ?_
       exact awl_nil ⟨rfl, post_put⟩⟩⟩
     , ⟨_, rfl, fun sl hd hr ho => by
       refine r_loadAb 0 (hr 12 _ rfl rfl rfl) rfl TD.agg90 TD.sz90 rfl rfl ?_
       exact awl_nil ⟨rfl, post_put⟩⟩⟩
     , ⟨_, rfl, fun sl hd hr ho => by
       first | (refine r_lookupK 0 keyPD (ev := numA) (k := p) 0 (hd 5 _ rfl rfl rfl) rfl (hd 6 _ rfl rfl rfl) (isVal_pl p) TD.map87 TD.zav31 rfl ?_) | (refine r_lookupK 1 keyPD (ev := numA) (k := p) 0 (hd 5 _ rfl rfl rfl) rfl (hd 6 _ rfl rfl rfl) (isVal_pl p) TD.map87 TD.zav31 rfl ?_)
       exact awl_nil ⟨rfl, post_put⟩⟩⟩
     , ⟨_, rfl, fun sl hd hr ho => by
       refine r_build (parts := [(0, .tmp 50), (1, .tmp 52), (2, .tmp 55)]) rfl TD.pl57 TD.zero57 (parts_cons (hd 2 _ rfl rfl rfl) (parts_cons (hd 4 _ rfl rfl rfl) (parts_cons (hd 7 _ rfl rfl rfl) parts_nil))) rfl rfl ?_
       exact awl_nil ⟨rfl, post_put⟩⟩⟩
     , ⟨_, rfl, fun sl hd hr ho => by
       refine r_lit 57 (parts := [(0, .tmp 56)]) rfl TD.sl52 TD.sz57 TD.zraw57 rfl rfl (parts_cons (hd 8 _ rfl rfl rfl) parts_nil) rfl rfl rfl rfl ?_
       exact awl_nil ⟨rfl, (post_dem (ho 57 (List.mem_of_elem_eq_true rfl)))⟩⟩⟩
     (by rfl) ?_
    refine r_append 10 rfl (by first | exact .own _ | exact .nil) rfl (by first | exact .sl _ | exact .own _ _ | exact .nil) TD.sl52 TD.sz57 (by decide) TD.by57 TD.zlen57 (by simp [chunks] <;> omega) (by simp [chunks] <;> omega) rfl ?_
    refine r_assign rfl rfl ?_
    refine awl_nil ?_
    refine x_block ?_
    refine x_then ?_
    refine awp_region ?_
    refine r_ari _ rfl rfl rfl (wrap_id (by first | omega | (simp; omega))) rfl ?_
    refine r_move rfl rfl ?_
    refine awl_nil ?_
    refine x_then ?_
    have et := fm_step (f := cleanAt l') hp
    rw [hcl] at et
    simp only [Option.toList_some, Option.toList_none, List.append_nil] at et
    refine ⟨pl.length - (k + 1), ⟨61, [(6, .a (.v (.map (some bm)))), (10, .own 10 3 (((pl.take (k + 1)).filterMap (cleanAt l')).map Ent.cs)), (38, .a (plsA pl)), (39, .a (.v (.int .i64 ((pl.map PL.cs).length)))), (40, .a (.v (.int .i64 (((k + 1) : Int)))))], [⟨bm, true, .map (encM ekP numA m)⟩]⟩, ⟨rfl, (Slots.cons rfl (by first | exact .refl _ | exact .nilOwn _ _ | exact .nilSl _ | exact .ownSl _ _ _  | exact SV.le.ownEq (by first | rfl | (rw [et, List.map_append]; rfl) | (rw [et]; first | done | rfl)) | exact SV.le.of_eq (by first | rfl | (rw [et, List.map_append]; rfl) | (rw [et]; first | done | rfl))) (Slots.cons rfl (by first | exact .refl _ | exact .nilOwn _ _ | exact .nilSl _ | exact .ownSl _ _ _  | exact SV.le.ownEq (by first | rfl | (rw [et, List.map_append]; rfl) | (rw [et]; first | done | rfl)) | exact SV.le.of_eq (by first | rfl | (rw [et, List.map_append]; rfl) | (rw [et]; first | done | rfl))) (Slots.cons rfl (by first | exact .refl _ | exact .nilOwn _ _ | exact .nilSl _ | exact .ownSl _ _ _  | exact SV.le.ownEq (by first | rfl | (rw [et, List.map_append]; rfl) | (rw [et]; first | done | rfl)) | exact SV.le.of_eq (by first | rfl | (rw [et, List.map_append]; rfl) | (rw [et]; first | done | rfl))) (Slots.cons rfl (by first | exact .refl _ | exact .nilOwn _ _ | exact .nilSl _ | exact .ownSl _ _ _  | exact SV.le.ownEq (by first | rfl | (rw [et, List.map_append]; rfl) | (rw [et]; first | done | rfl)) | exact SV.le.of_eq (by first | rfl | (rw [et, List.map_append]; rfl) | (rw [et]; first | done | rfl))) (Slots.cons rfl (by first | exact .refl _ | exact .nilOwn _ _ | exact .nilSl _ | exact .ownSl _ _ _  | exact SV.le.ownEq (by first | rfl | (rw [et, List.map_append]; rfl) | (rw [et]; first | done | rfl)) | exact SV.le.of_eq (by first | rfl | (rw [et, List.map_append]; rfl) | (rw [et]; first | done | rfl))) Slots.nil))))), (by first | exact List.Sublist.refl _ | exact .cons_cons _ (.cons _ (.refl _)) | exact List.nil_sublist _ | exact .cons _ (.refl _) | exact .cons _ (.cons _ (.refl _)) | exact .cons _ (.cons _ (.cons _ (.refl _))) | exact .cons _ (.cons _ (.cons _ (.cons _ (.refl _)))) | exact .cons_cons _ (List.nil_sublist _))⟩, (by omega), ⟨k + 1, rfl, rfl, (by omega)⟩⟩
   ·
    have hne : shows l' p = 0 := by rw [← tells_shows ht]; simpa using hc3
    have hcl : cleanAt l' p = none := by rw [cleanAt, if_pos hne]
    refine awp_skip ?_
    refine x_block ?_
    refine x_then ?_
    refine awp_region ?_
    refine r_ari _ rfl rfl rfl (wrap_id (by first | omega | (simp; omega))) rfl ?_
    refine r_move rfl rfl ?_
    refine awl_nil ?_
    refine x_then ?_
    have et := fm_step (f := cleanAt l') hp
    rw [hcl] at et
    simp only [Option.toList_some, Option.toList_none, List.append_nil] at et
    refine ⟨pl.length - (k + 1), ⟨61, [(6, .a (.v (.map (some bm)))), (10, .own 10 3 (((pl.take (k + 1)).filterMap (cleanAt l')).map Ent.cs)), (38, .a (plsA pl)), (39, .a (.v (.int .i64 ((pl.map PL.cs).length)))), (40, .a (.v (.int .i64 (((k + 1) : Int)))))], [⟨bm, true, .map (encM ekP numA m)⟩]⟩, ⟨rfl, (Slots.cons rfl (by first | exact .refl _ | exact .nilOwn _ _ | exact .nilSl _ | exact .ownSl _ _ _  | exact SV.le.ownEq (by first | rfl | (rw [et, List.map_append]; rfl) | (rw [et]; first | done | rfl)) | exact SV.le.of_eq (by first | rfl | (rw [et, List.map_append]; rfl) | (rw [et]; first | done | rfl))) (Slots.cons rfl (by first | exact .refl _ | exact .nilOwn _ _ | exact .nilSl _ | exact .ownSl _ _ _  | exact SV.le.ownEq (by first | rfl | (rw [et, List.map_append]; rfl) | (rw [et]; first | done | rfl)) | exact SV.le.of_eq (by first | rfl | (rw [et, List.map_append]; rfl) | (rw [et]; first | done | rfl))) (Slots.cons rfl (by first | exact .refl _ | exact .nilOwn _ _ | exact .nilSl _ | exact .ownSl _ _ _  | exact SV.le.ownEq (by first | rfl | (rw [et, List.map_append]; rfl) | (rw [et]; first | done | rfl)) | exact SV.le.of_eq (by first | rfl | (rw [et, List.map_append]; rfl) | (rw [et]; first | done | rfl))) (Slots.cons rfl (by first | exact .refl _ | exact .nilOwn _ _ | exact .nilSl _ | exact .ownSl _ _ _  | exact SV.le.ownEq (by first | rfl | (rw [et, List.map_append]; rfl) | (rw [et]; first | done | rfl)) | exact SV.le.of_eq (by first | rfl | (rw [et, List.map_append]; rfl) | (rw [et]; first | done | rfl))) (Slots.cons rfl (by first | exact .refl _ | exact .nilOwn _ _ | exact .nilSl _ | exact .ownSl _ _ _  | exact SV.le.ownEq (by first | rfl | (rw [et, List.map_append]; rfl) | (rw [et]; first | done | rfl)) | exact SV.le.of_eq (by first | rfl | (rw [et, List.map_append]; rfl) | (rw [et]; first | done | rfl))) Slots.nil))))), (by first | exact List.Sublist.refl _ | exact .cons_cons _ (.cons _ (.refl _)) | exact List.nil_sublist _ | exact .cons _ (.refl _) | exact .cons _ (.cons _ (.refl _)) | exact .cons _ (.cons _ (.cons _ (.refl _))) | exact .cons _ (.cons _ (.cons _ (.cons _ (.refl _)))) | exact .cons_cons _ (List.nil_sublist _))⟩, (by omega), ⟨k + 1, rfl, rfl, (by omega)⟩⟩
  ·
   have hge : pl.length ≤ k := by have := of_decide_eq_false hc2; simp at this; omega
   have hkl2 : pl.take k = pl := List.take_of_length_le hge
   refine awp_exit ?_
   refine x_thenE ?_
   refine x_thenE ?_
   refine x_blockE ?_
   refine x_then ?_
   refine awp_seq ?_
   refine awp_region ?_
   refine r_move rfl rfl ?_
   refine r_assign rfl rfl ?_
   refine r_assign rfl rfl ?_
   refine awl_nil ?_
   refine x_then ?_
   refine awp_ret ?_
   exact ⟨(.inl rfl), _, [], (.two (by first | exact .mk rfl rfl | exact .nil rfl) (by first | exact .mk rfl rfl | exact .nil rfl)), ⟨rfl, .inl ⟨l', ha', by rw [hkl2, hpl]; rfl⟩⟩, (List.nil_sublist _), (by simp)⟩
end Go.Proofs.Ytpkodkoooaldlaa.A
namespace Go.Proofs.Ytpkodkoooaldlaa.A
open Go Go.RowKit
set_option linter.unusedVariables false
set_option linter.unusedSimpArgs false
set_option maxRecDepth 100000
theorem TD.agg37 : aggT Try.prog 37 = some false := by kernel_rfl
theorem TD.en50 : entersT Try.prog 50 := enters_of Try.func50 (by kernel_rfl) (by kernel_rfl)
theorem TD.zero37 : ZeroT Try.prog 37 [.v (.slice none 0 0)] := ⟨[(.slice none 0 0)], by kernel_rfl, (LeCells.refl _)⟩
theorem TD.en33 : entersT Try.prog 33 := enters_of Try.func33 (by kernel_rfl) (by kernel_rfl)
theorem TD.sz37 : szT Try.prog 37 = some 1 := by kernel_rfl
theorem tr_rwB {wo : List OE} : ∀ x ∈ Tr wo, x.rw = true := fun x hx => by obtain ⟨e0, _, rfl⟩ := List.mem_map.1 hx; rfl
def backA (l : List Chg) (pre : List (List AV)) (x : List AV) : Prop := ∃ y i, l.reverse[pre.length]? = some y ∧ x = [.v (.int .i64 i), .agg (Chg.cs y)]
theorem rev_get {α : Type} {l : List α} {k : Nat} {x : α} (h : l.reverse[k]? = some x) : k < l.length ∧ l[l.length - 1 - k]? = some x := by
  have h1 := (List.getElem?_eq_some_iff.1 h).1
  simp at h1
  exact ⟨h1, by rw [List.getElem?_reverse h1] at h; exact h⟩
theorem rev_step {l : List Chg} {k : Nat} {y : Chg} (h : l.reverse[k]? = some y) : (l.reverse.take (k + 1)).map Chg.turn = (l.reverse.take k).map Chg.turn ++ [y.turn] := by
  rw [takeS h, List.map_append]; rfl
theorem back_ok (l : List Chg) : AC Try.prog 33 [chgsA l] [] (fun r n => n = [] ∧ r = .fn 50 [.cp [chgsA l]]) := by
 refine ac_of_awp (rs := [2]) (nt := 4) Try.func33 rfl rfl rfl rfl (fun w0 C0 hq => ?_)
 refine awp_seq ?_
 refine awp_region ?_
 refine r_box rfl rfl rfl (fun b1 => ?_)
 refine r_assign rfl rfl ?_
 refine awl_nil ?_
 refine x_then ?_
 refine awp_seq ?_
 refine awp_region ?_
 refine awl_imp (imp_commit 0 1 rfl rfl rfl rfl) ?_
 refine r_makeFunc rfl (.cons (.ev rfl rfl) .nil) rfl ?_
 refine r_assign rfl rfl ?_
 refine awl_nil ?_
 refine x_then ?_
 refine awp_ret ?_
 exact ⟨(.inl rfl), _, [], (.one (by first | exact .mk rfl rfl | exact .nil rfl)), ⟨rfl, rfl⟩, (List.nil_sublist _), (by simp)⟩
theorem back1_ok (l : List Chg) (hl : l.length ≤ 1000000) : IterC Try.prog 50 [.cp [chgsA l]] [] (backA l) (fun xs => xs.length = l.length) := by
 intro l0 Cs J hY wo hJ0
 refine awc_of_awpG Cs (so := Tr wo) (nt := 19) (fun S r => Result1 S [] r) Try.func50 rfl rfl rfl rfl (result1_run rfl) (fun w0 C0 hq hcs => ?_)
 refine awp_seq ?_
 refine awp_region ?_
 refine r_load1 rfl TD.agg37 rfl ?_
 first | (refine r_lenS rfl rfl TD.sl37 rfl ?_) | (refine r_lenNil rfl TD.sl37 rfl ?_) | (refine r_lenV rfl TD.sl37 rfl ?_)
 refine r_ari _ rfl rfl rfl (wrap_id (by first | omega | (simp; omega))) rfl ?_
 refine r_assign rfl rfl ?_
 refine awl_nil ?_
 refine x_then ?_
 refine awp_block ?_
 refine awp_loop (fun nn0 S => ∃ k : Nat, ∃ pr : List (List AV), ∃ wv : List OE, S = ⟨19, [(0, .a (.v (.func (.yield l0) #[] #[]))), (1, .a (.cp [chgsA l])), (3, .a (.v (.int .i64 ((l.length : Int) - 1 - (k : Int)))))], Tr wv⟩ ∧ nn0 = l.length - k ∧ (k ≤ l.length) ∧ (pr.length = k) ∧ (J pr wv)) (l.length - (0)) ⟨19, [(0, .a (.v (.func (.yield l0) #[] #[]))), (1, .a (.cp [chgsA l])), (3, .a (.v (.int .i64 ((l.length : Int) - 1 - ((0) : Int)))))], Tr (wo)⟩ ⟨rfl, (Slots.cons rfl (by first | exact .refl _ | exact .nilOwn _ _ | exact .nilSl _ | exact .ownSl _ _ _  | exact SV.le.ownEq (by simp) | exact SV.le.of_eq (by simp)) (Slots.cons rfl (by first | exact .refl _ | exact .nilOwn _ _ | exact .nilSl _ | exact .ownSl _ _ _  | exact SV.le.ownEq (by simp) | exact SV.le.of_eq (by simp)) (Slots.cons rfl (by first | exact .refl _ | exact .nilOwn _ _ | exact .nilSl _ | exact .ownSl _ _ _  | exact SV.le.ownEq (by simp) | exact SV.le.of_eq (by simp)) Slots.nil))), (by first | exact List.Sublist.refl _ | exact .cons_cons _ (.cons _ (.refl _)) | exact List.nil_sublist _ | exact .cons _ (.refl _) | exact .cons _ (.cons _ (.refl _)) | exact .cons _ (.cons _ (.cons _ (.refl _))) | exact .cons _ (.cons _ (.cons _ (.cons _ (.refl _)))) | exact .cons_cons _ (List.nil_sublist _))⟩ ⟨0, [], wo, rfl, rfl, Nat.zero_le _, rfl, hJ0⟩ ?_
 rintro nn0 _ ⟨k, pr, wv, rfl, rfl, hk, hpr, hJ⟩
 refine awp_seq ?_
 refine awp_seq ?_
 refine awp_region ?_
 refine r_move rfl rfl ?_
 refine r_cmp rfl rfl rfl rfl ?_
 refine awl_nil ?_
 refine x_then ?_
 refine awp_cond rfl (fun hc0 => ?_) (fun hc0 => ?_)
 ·
  have hkl : k < l.length := by have := of_decide_eq_true hc0; simp at this; omega
  obtain ⟨x, hxr⟩ : ∃ x, l.reverse[k]? = some x := get_lt (by simpa using hkl)
  have hx := (rev_get hxr).2
  refine awp_skip ?_
  refine x_then ?_
  refine awp_seq ?_
  refine awp_block ?_
  refine awp_seq ?_
  refine awp_regionI ?_
  refine awli_op (fun c h => (by cases h)) ?_
  refine r_move rfl rfl ?_
  refine awl_nil ⟨rfl, ?_⟩
  refine awli_op (fun c h => (by cases h)) ?_
  refine r_move rfl rfl ?_
  refine awl_nil ⟨rfl, ?_⟩
  refine awli_op (fun c h => (by cases h)) ?_
  refine r_load1 rfl TD.agg37 rfl ?_
  refine awl_nil ⟨rfl, ?_⟩
  refine awli_op (fun c h => (by cases h)) ?_
  refine r_move rfl rfl ?_
  refine awl_nil ⟨rfl, ?_⟩
  refine awli_op (fun c h => (by cases h)) ?_
  refine r_index rfl rfl rfl TD.sl37 TD.sz42 (by omega) (by rw [show ((l.length : Int) - 1 - (k : Int)).toNat = l.length - 1 - k by omega]; exact get_map hx) rfl ?_
  refine awl_nil ⟨rfl, ?_⟩
  refine awli_op (fun c h => (by cases h)) ?_
  refine r_loadA rfl TD.agg42 TD.sz42 rfl rfl ?_
  refine awl_nil ⟨rfl, ?_⟩
  refine r_yield hq (un := []) (fun n => Tr n) rfl rfl (.cons (.ev rfl rfl) (.cons (.ev rfl rfl) .nil)) Cs hcs (hY pr [.v (.int .i64 ((l.length : Int) - 1 - (k : Int))), .agg (Chg.cs x)] wv hJ ⟨x, _, by rw [hpr]; exact hxr, rfl⟩) (by rw [List.append_nil]; exact List.Perm.refl _) (fun n => by rw [List.append_nil]) rfl (fun nobjs hJ' => ?_)
  refine awli_op (fun c h => (by cases h)) ?_
  refine r_not rfl rfl ?_
  refine awl_nil ⟨rfl, ?_⟩
  refine awli_nil ?_
  refine x_then ?_
  refine awp_cond rfl (fun hc1 => ?_) (fun hc1 => ?_)
  ·
   exfalso; simp at hc1
  ·
   refine awp_skip ?_
   refine x_block ?_
   refine x_then ?_
   refine awp_region ?_
   refine r_move rfl rfl ?_
   refine r_ari _ rfl rfl rfl (wrap_id (by first | omega | (simp; omega))) rfl ?_
   refine r_assign rfl rfl ?_
   refine awl_nil ?_
   refine x_then ?_
   refine ⟨l.length - (k + 1), ⟨19, [(0, .a (.v (.func (.yield l0) #[] #[]))), (1, .a (.cp [chgsA l])), (3, .a (.v (.int .i64 ((l.length : Int) - 1 - ((k + 1) : Int)))))], Tr (nobjs)⟩, ⟨rfl, (Slots.cons rfl (by first | exact .refl _ | exact .nilOwn _ _ | exact .nilSl _ | exact .ownSl _ _ _  | exact SV.le.ownEq (by simp <;> omega) | exact SV.le.of_eq (by simp <;> omega)) (Slots.cons rfl (by first | exact .refl _ | exact .nilOwn _ _ | exact .nilSl _ | exact .ownSl _ _ _  | exact SV.le.ownEq (by simp <;> omega) | exact SV.le.of_eq (by simp <;> omega)) (Slots.cons rfl (by first | exact .refl _ | exact .nilOwn _ _ | exact .nilSl _ | exact .ownSl _ _ _  | exact SV.le.ownEq (by simp <;> omega) | exact SV.le.of_eq (by simp <;> omega)) Slots.nil))), (by first | exact List.Sublist.refl _ | exact .cons_cons _ (.cons _ (.refl _)) | exact List.nil_sublist _ | exact .cons _ (.refl _) | exact .cons _ (.cons _ (.refl _)) | exact .cons _ (.cons _ (.cons _ (.refl _))) | exact .cons _ (.cons _ (.cons _ (.cons _ (.refl _)))) | exact .cons_cons _ (List.nil_sublist _))⟩, (by omega), ⟨k + 1, pr ++ [[.v (.int .i64 ((l.length : Int) - 1 - (k : Int))), .agg (Chg.cs x)]], nobjs, rfl, rfl, (by omega), (by simp [hpr]), hJ'⟩⟩
 ·
  have hkl : l.length ≤ k := by have := of_decide_eq_false hc0; simp at this; omega
  refine awp_exit ?_
  refine x_thenE ?_
  refine x_thenE ?_
  refine x_blockE ?_
  exact ⟨(.inr rfl), _, Tr wv, .none, ⟨pr, wv, by omega, hJ, rfl⟩, (List.Sublist.refl _), tr_rwB⟩
theorem turn_ok (d : List Chg) (hd : d.length ≤ 1000000) : AC Try.prog 18 [chgsA d] [] (fun r n => n = [] ∧ r = chgsA (turnF d)) := by
 refine ac_of_awp (rs := [2]) (nt := 23) Try.func18 rfl rfl rfl rfl (fun w0 C0 hq => ?_)
 refine awp_seq ?_
 refine awp_region ?_
 refine r_assign rfl rfl ?_
 refine awl_nil ?_
 refine x_then ?_
 refine awp_seq ?_
 refine awp_region ?_
 refine r_alloc TD.zero37 rfl (fun b3 => ?_)
 refine awl_nil ?_
 refine x_then ?_
 refine awp_seq ?_
 refine awp_seq ?_
 refine awp_region ?_
 refine r_move rfl rfl ?_
 refine r_call0 hq rfl rfl (.cons (.ev rfl rfl) .nil) (back_ok d) rfl TD.en33 rfl (fun r hr => ?_)
 obtain rfl := hr
 refine awl_nil ?_
 refine x_then ?_
 refine awp_block ?_
 refine awp_rangeFunc (fun pre wo => GrowB b3 4 42 (((d.reverse.take pre.length).map Chg.turn).map Chg.cs) wo) [(3, .a (.v (.pointer (some ⟨b3, 0, none⟩))))] [true] hq rfl (back1_ok d hd) TD.en50 (fun pre x h => by obtain ⟨_, _, _, rfl⟩ := h; rfl) rfl rfl rfl (by first | exact List.Sublist.refl _ | exact .cons_cons _ (.cons _ (.refl _)) | exact List.nil_sublist _ | exact .cons _ (.refl _) | exact .cons _ (.cons _ (.refl _)) | exact .cons _ (.cons _ (.cons _ (.refl _))) | exact .cons _ (.cons _ (.cons _ (.cons _ (.refl _)))) | exact .cons_cons _ (List.nil_sublist _)) (Slots.cons rfl (by first | exact .refl _ | exact .nilOwn _ _ | exact .nilSl _ | exact .ownSl _ _ _  | exact SV.le.of_eq (by simp)) Slots.nil) rfl rfl (.inl ⟨rfl, rfl⟩) ?_ ?_
 ·
  intro lr pre x wo rec busy w0 C0 hq hj hax
  obtain ⟨y, i, hy, rfl⟩ := hax
  have e := rev_step hy
  have hlen : pre.length < d.length := (rev_get hy).1
  rcases hj with ⟨h0, rfl⟩ | ⟨h0, g, cap, rfl⟩
  ·
   have h00 : ((d.reverse.take pre.length).map Chg.turn) = [] := by simpa using h0
   refine awpi_region ?_
   refine awli_op (fun c h => (by cases h)) ?_
   refine r_alloc TD.zero42 rfl (fun b5 => ?_)
   refine awl_nil ⟨rfl, ?_⟩
   refine awli_op (fun c h => (by cases h)) ?_
   first | (refine r_store 0 rfl rfl rfl TD.sz42 rfl rfl rfl ?_) | (refine r_store 1 rfl rfl rfl TD.sz42 rfl rfl rfl ?_) | (refine r_store 2 rfl rfl rfl TD.sz42 rfl rfl rfl ?_) | (refine r_store 3 rfl rfl rfl TD.sz42 rfl rfl rfl ?_)
   refine awl_nil ⟨rfl, ?_⟩
   refine awli_nil ?_
   refine ⟨rfl, 2, rfl, ?_⟩
   refine awpi_block ?_
   refine awpi_region ?_
   refine awli_op (fun c h => (by cases h)) ?_
   first | (refine r_load1 rfl TD.agg37 rfl ?_) | (refine r_load1b 0 rfl rfl rfl TD.agg37 rfl ?_) | (refine r_load1b 1 rfl rfl rfl TD.agg37 rfl ?_) | (refine r_load1b 2 rfl rfl rfl TD.agg37 rfl ?_) | (refine r_load1b 3 rfl rfl rfl TD.agg37 rfl ?_)
   refine awl_nil ⟨rfl, ?_⟩
   refine awli_op (fun c h => (by cases h)) ?_
   first | (refine r_fieldcp rfl TD.f42_0 TD.sz3 rfl ?_) | (refine r_fieldpt rfl TD.f42_0 TD.sz3 rfl ?_) | (refine r_fieldb rfl TD.f42_0 TD.sz3 rfl ?_)
   refine awl_nil ⟨rfl, ?_⟩
   refine awli_op (fun c h => (by cases h)) ?_
   first | (refine r_load1 rfl TD.agg3 rfl ?_) | (refine r_load1b 0 rfl rfl rfl TD.agg3 rfl ?_) | (refine r_load1b 1 rfl rfl rfl TD.agg3 rfl ?_) | (refine r_load1b 2 rfl rfl rfl TD.agg3 rfl ?_) | (refine r_load1b 3 rfl rfl rfl TD.agg3 rfl ?_)
   refine awl_nil ⟨rfl, ?_⟩
   refine awli_op (fun c h => (by cases h)) ?_
   first | (refine r_fieldcp rfl TD.f42_1 TD.sz3 rfl ?_) | (refine r_fieldpt rfl TD.f42_1 TD.sz3 rfl ?_) | (refine r_fieldb rfl TD.f42_1 TD.sz3 rfl ?_)
   refine awl_nil ⟨rfl, ?_⟩
   refine awli_op (fun c h => (by cases h)) ?_
   first | (refine r_load1 rfl TD.agg3 rfl ?_) | (refine r_load1b 0 rfl rfl rfl TD.agg3 rfl ?_) | (refine r_load1b 1 rfl rfl rfl TD.agg3 rfl ?_) | (refine r_load1b 2 rfl rfl rfl TD.agg3 rfl ?_) | (refine r_load1b 3 rfl rfl rfl TD.agg3 rfl ?_)
   refine awl_nil ⟨rfl, ?_⟩
   refine awli_op (fun c h => (by cases h)) ?_
   first | (refine r_fieldcp rfl TD.f42_3 TD.sz31 rfl ?_) | (refine r_fieldpt rfl TD.f42_3 TD.sz31 rfl ?_) | (refine r_fieldb rfl TD.f42_3 TD.sz31 rfl ?_)
   refine awl_nil ⟨rfl, ?_⟩
   refine awli_op (fun c h => (by cases h)) ?_
   first | (refine r_load1 rfl TD.agg31 rfl ?_) | (refine r_load1b 0 rfl rfl rfl TD.agg31 rfl ?_) | (refine r_load1b 1 rfl rfl rfl TD.agg31 rfl ?_) | (refine r_load1b 2 rfl rfl rfl TD.agg31 rfl ?_) | (refine r_load1b 3 rfl rfl rfl TD.agg31 rfl ?_)
   refine awl_nil ⟨rfl, ?_⟩
   refine awli_op (fun c h => (by cases h)) ?_
   first | (refine r_fieldcp rfl TD.f42_2 TD.sz31 rfl ?_) | (refine r_fieldpt rfl TD.f42_2 TD.sz31 rfl ?_) | (refine r_fieldb rfl TD.f42_2 TD.sz31 rfl ?_)
   refine awl_nil ⟨rfl, ?_⟩
   refine awli_op (fun c h => (by cases h)) ?_
   first | (refine r_load1 rfl TD.agg31 rfl ?_) | (refine r_load1b 0 rfl rfl rfl TD.agg31 rfl ?_) | (refine r_load1b 1 rfl rfl rfl TD.agg31 rfl ?_) | (refine r_load1b 2 rfl rfl rfl TD.agg31 rfl ?_) | (refine r_load1b 3 rfl rfl rfl TD.agg31 rfl ?_)
   refine awl_nil ⟨rfl, ?_⟩
   refine awli_op (fun c h => (by cases h)) ?_
   refine r_build (parts := [(0, .tmp 12), (1, .tmp 14), (2, .tmp 16), (3, .tmp 18)]) rfl TD.pl42 TD.zero42 rfl rfl rfl ?_
   refine awl_nil ⟨rfl, ?_⟩
   refine awli_op (fun c h => (by cases h)) ?_
   refine r_lit 20 (parts := [(0, .tmp 19)]) rfl TD.sl37 TD.sz42 TD.zraw42 rfl rfl rfl rfl rfl rfl rfl ?_
   refine awl_nil ⟨rfl, ?_⟩
   refine awli_op (fun c h => (by cases h)) ?_
   refine r_appendBN rfl rfl (by first | exact .sl _ | exact .own _ _) (by simp [chunks]) TD.sl37 TD.sz42 TD.by42 TD.zlen42 (by simp [chunks] <;> omega) (by simp [chunks] <;> omega) rfl (fun gb gc => ?_)
   refine awl_nil ⟨rfl, ?_⟩
   refine awli_op (fun c h => (by cases h)) ?_
   first | (refine r_store 0 rfl rfl rfl TD.sz37 rfl rfl rfl ?_) | (refine r_store 1 rfl rfl rfl TD.sz37 rfl rfl rfl ?_) | (refine r_store 2 rfl rfl rfl TD.sz37 rfl rfl rfl ?_) | (refine r_store 3 rfl rfl rfl TD.sz37 rfl rfl rfl ?_) | (refine r_store 4 rfl rfl rfl TD.sz37 rfl rfl rfl ?_)
   refine awl_nil ⟨rfl, ?_⟩
   refine awli_nil ?_
   refine x_block ?_
   refine ⟨rfl, _, .inr ⟨by simp [e], gb, gc, rfl⟩, ?_, by simp⟩
   simp only [List.length_append, List.length_singleton]
   rw [e, h00]
   first | exact List.Sublist.refl _ | exact .cons_cons _ (.cons _ (.refl _)) | exact List.nil_sublist _ | exact .cons _ (.refl _) | exact .cons _ (.cons _ (.refl _)) | exact .cons _ (.cons _ (.cons _ (.refl _))) | exact .cons _ (.cons _ (.cons _ (.cons _ (.refl _)))) | exact .cons_cons _ (List.nil_sublist _)
  ·
   refine awpi_region ?_
   refine awli_op (fun c h => (by cases h)) ?_
   refine r_alloc TD.zero42 rfl (fun b5 => ?_)
   refine awl_nil ⟨rfl, ?_⟩
   refine awli_op (fun c h => (by cases h)) ?_
   first | (refine r_store 0 rfl rfl rfl TD.sz42 rfl rfl rfl ?_) | (refine r_store 1 rfl rfl rfl TD.sz42 rfl rfl rfl ?_) | (refine r_store 2 rfl rfl rfl TD.sz42 rfl rfl rfl ?_) | (refine r_store 3 rfl rfl rfl TD.sz42 rfl rfl rfl ?_) | (refine r_store 4 rfl rfl rfl TD.sz42 rfl rfl rfl ?_)
   refine awl_nil ⟨rfl, ?_⟩
   refine awli_nil ?_
   refine ⟨rfl, 3, rfl, ?_⟩
   refine awpi_block ?_
   refine awpi_region ?_
   refine awli_op (fun c h => (by cases h)) ?_
   first | (refine r_load1 rfl TD.agg37 rfl ?_) | (refine r_load1b 0 rfl rfl rfl TD.agg37 rfl ?_) | (refine r_load1b 1 rfl rfl rfl TD.agg37 rfl ?_) | (refine r_load1b 2 rfl rfl rfl TD.agg37 rfl ?_) | (refine r_load1b 3 rfl rfl rfl TD.agg37 rfl ?_) | (refine r_load1b 4 rfl rfl rfl TD.agg37 rfl ?_)
   refine awl_nil ⟨rfl, ?_⟩
   refine awli_op (fun c h => (by cases h)) ?_
   first | (refine r_fieldcp rfl TD.f42_0 TD.sz3 rfl ?_) | (refine r_fieldpt rfl TD.f42_0 TD.sz3 rfl ?_) | (refine r_fieldb rfl TD.f42_0 TD.sz3 rfl ?_)
   refine awl_nil ⟨rfl, ?_⟩
   refine awli_op (fun c h => (by cases h)) ?_
   first | (refine r_load1 rfl TD.agg3 rfl ?_) | (refine r_load1b 0 rfl rfl rfl TD.agg3 rfl ?_) | (refine r_load1b 1 rfl rfl rfl TD.agg3 rfl ?_) | (refine r_load1b 2 rfl rfl rfl TD.agg3 rfl ?_) | (refine r_load1b 3 rfl rfl rfl TD.agg3 rfl ?_) | (refine r_load1b 4 rfl rfl rfl TD.agg3 rfl ?_)
   refine awl_nil ⟨rfl, ?_⟩
   refine awli_op (fun c h => (by cases h)) ?_
   first | (refine r_fieldcp rfl TD.f42_1 TD.sz3 rfl ?_) | (refine r_fieldpt rfl TD.f42_1 TD.sz3 rfl ?_) | (refine r_fieldb rfl TD.f42_1 TD.sz3 rfl ?_)
   refine awl_nil ⟨rfl, ?_⟩
   refine awli_op (fun c h => (by cases h)) ?_
   first | (refine r_load1 rfl TD.agg3 rfl ?_) | (refine r_load1b 0 rfl rfl rfl TD.agg3 rfl ?_) | (refine r_load1b 1 rfl rfl rfl TD.agg3 rfl ?_) | (refine r_load1b 2 rfl rfl rfl TD.agg3 rfl ?_) | (refine r_load1b 3 rfl rfl rfl TD.agg3 rfl ?_) | (refine r_load1b 4 rfl rfl rfl TD.agg3 rfl ?_)
   refine awl_nil ⟨rfl, ?_⟩
   refine awli_op (fun c h => (by cases h)) ?_
   first | (refine r_fieldcp rfl TD.f42_3 TD.sz31 rfl ?_) | (refine r_fieldpt rfl TD.f42_3 TD.sz31 rfl ?_) | (refine r_fieldb rfl TD.f42_3 TD.sz31 rfl ?_)
   refine awl_nil ⟨rfl, ?_⟩
   refine awli_op (fun c h => (by cases h)) ?_
   first | (refine r_load1 rfl TD.agg31 rfl ?_) | (refine r_load1b 0 rfl rfl rfl TD.agg31 rfl ?_) | (refine r_load1b 1 rfl rfl rfl TD.agg31 rfl ?_) | (refine r_load1b 2 rfl rfl rfl TD.agg31 rfl ?_) | (refine r_load1b 3 rfl rfl rfl TD.agg31 rfl ?_) | (refine r_load1b 4 rfl rfl rfl TD.agg31 rfl ?_)
   refine awl_nil ⟨rfl, ?_⟩
   refine awli_op (fun c h => (by cases h)) ?_
   first | (refine r_fieldcp rfl TD.f42_2 TD.sz31 rfl ?_) | (refine r_fieldpt rfl TD.f42_2 TD.sz31 rfl ?_) | (refine r_fieldb rfl TD.f42_2 TD.sz31 rfl ?_)
   refine awl_nil ⟨rfl, ?_⟩
   refine awli_op (fun c h => (by cases h)) ?_
   first | (refine r_load1 rfl TD.agg31 rfl ?_) | (refine r_load1b 0 rfl rfl rfl TD.agg31 rfl ?_) | (refine r_load1b 1 rfl rfl rfl TD.agg31 rfl ?_) | (refine r_load1b 2 rfl rfl rfl TD.agg31 rfl ?_) | (refine r_load1b 3 rfl rfl rfl TD.agg31 rfl ?_) | (refine r_load1b 4 rfl rfl rfl TD.agg31 rfl ?_)
   refine awl_nil ⟨rfl, ?_⟩
   refine awli_op (fun c h => (by cases h)) ?_
   refine r_build (parts := [(0, .tmp 12), (1, .tmp 14), (2, .tmp 16), (3, .tmp 18)]) rfl TD.pl42 TD.zero42 rfl rfl rfl ?_
   refine awl_nil ⟨rfl, ?_⟩
   refine awli_op (fun c h => (by cases h)) ?_
   refine r_lit 20 (parts := [(0, .tmp 19)]) rfl TD.sl37 TD.sz42 TD.zraw42 rfl rfl rfl rfl rfl rfl rfl ?_
   refine awl_nil ⟨rfl, ?_⟩
   refine awli_op (fun c h => (by cases h)) ?_
   refine r_appendBG 1 rfl rfl rfl rfl (by first | exact .sl _ | exact .own _ _) (by simp [chunks]) TD.sl37 TD.sz42 TD.by42 TD.zlen42 (by simp [chunks] <;> omega) (by simp [chunks] <;> omega) rfl (fun gb gc => ?_)
   refine awl_nil ⟨rfl, ?_⟩
   refine awli_op (fun c h => (by cases h)) ?_
   first | (refine r_store 0 rfl rfl rfl TD.sz37 rfl rfl rfl ?_) | (refine r_store 1 rfl rfl rfl TD.sz37 rfl rfl rfl ?_) | (refine r_store 2 rfl rfl rfl TD.sz37 rfl rfl rfl ?_) | (refine r_store 3 rfl rfl rfl TD.sz37 rfl rfl rfl ?_) | (refine r_store 4 rfl rfl rfl TD.sz37 rfl rfl rfl ?_)
   refine awl_nil ⟨rfl, ?_⟩
   refine awli_nil ?_
   refine x_block ?_
   have e1 : List.map Chg.cs (List.map Chg.turn (List.take (pre.length + 1) d.reverse)) = List.map Chg.cs (List.map Chg.turn (List.take pre.length d.reverse)) ++ [y.turn.cs] := by rw [e, List.map_append]; rfl
   refine ⟨rfl, _, .inr ⟨by simp [e], gb, gc, rfl⟩, ?_, by simp⟩
   rw [show (pre ++ [[AV.v (.int .i64 i), .agg (Chg.cs y)]]).length = pre.length + 1 from by simp, e1]
   first | exact List.Sublist.refl _ | exact .cons_cons _ (.cons _ (.refl _)) | exact List.nil_sublist _ | exact .cons _ (.refl _) | exact .cons _ (.cons _ (.refl _)) | exact .cons _ (.cons _ (.cons _ (.refl _))) | exact .cons _ (.cons _ (.cons _ (.cons _ (.refl _)))) | exact .cons_cons _ (List.nil_sublist _)
 ·
  intro xs wo' hG hJ
  rw [hG, List.take_of_length_le (l := d.reverse) (i := d.length) (by simp)] at hJ
  rcases hJ with ⟨h0, rfl⟩ | ⟨h0, g, cap, rfl⟩
  ·
   refine x_block ?_
   refine x_then ?_
   refine awp_seq ?_
   refine awp_region ?_
   first | (refine r_load1 rfl TD.agg37 rfl ?_) | (refine r_load1b 0 rfl rfl rfl TD.agg37 rfl ?_) | (refine r_load1b 1 rfl rfl rfl TD.agg37 rfl ?_)
   refine r_assign rfl rfl ?_
   refine awl_nil ?_
   refine x_then ?_
   refine awp_ret ?_
   exact ⟨(.inl rfl), _, [], (.one (.nil (sz := 4) rfl)), ⟨rfl, by rw [turnF, chgsA, h0]⟩, (List.nil_sublist _), (by simp)⟩
  ·
   refine x_block ?_
   refine x_then ?_
   refine awp_seq ?_
   refine awp_region ?_
   first | (refine r_load1 rfl TD.agg37 rfl ?_) | (refine r_load1b 0 rfl rfl rfl TD.agg37 rfl ?_) | (refine r_load1b 1 rfl rfl rfl TD.agg37 rfl ?_)
   refine awl_imp (imp_commitB 0 22 rfl (by simp) rfl) ?_
   ·
    refine r_assign rfl rfl ?_
    refine awl_nil ?_
    refine x_then ?_
    refine awp_ret ?_
    exact ⟨(.inl rfl), _, [], (.one (by first | exact .mk rfl rfl | exact .nil rfl)), ⟨rfl, rfl⟩, (List.nil_sublist _), (by simp)⟩
end Go.Proofs.Ytpkodkoooaldlaa.A
namespace Go.Proofs.Ytpkodkoooaldlaa.A
open Go Go.RowKit
set_option linter.unusedVariables false
set_option linter.unusedSimpArgs false
set_option maxRecDepth 100000
theorem TD.en17 : entersT Try.prog 17 := enters_of Try.func17 (by kernel_rfl) (by kernel_rfl)
theorem TD.en15 : entersT Try.prog 15 := enters_of Try.func15 (by kernel_rfl) (by kernel_rfl)
theorem TD.mix42 : MixT Try.prog 42 [.i64, .i64, .u64, .u64] := ⟨by kernel_rfl, by kernel_rfl, by kernel_rfl, by kernel_rfl⟩
theorem TD.en18 : entersT Try.prog 18 := enters_of Try.func18 (by kernel_rfl) (by kernel_rfl)
theorem awake_ok : AC Try.prog 7 [] [] (fun r n => n = [] ∧ r = bA true) := by
  refine ac_of_awp (rs := [0]) (nt := 75) Try.func7 rfl rfl rfl rfl (fun w0 C0 hq => ?_)
  refine awp_seq ?_
  refine awp_region ?_
  refine r_assign rfl rfl ?_
  refine awl_nil ?_
  refine x_then ?_
  refine awp_seq ?_
  refine awp_region ?_
  refine r_build (parts := [(1, .const ((Go.Value.int Go.IntKind.i64 1))), (2, .const ((Go.Value.int Go.IntKind.u64 5)))]) rfl TD.pl57 TD.zero57 rfl rfl rfl ?_
  refine r_lit 7 (parts := [(0, .tmp 6)]) rfl TD.sl52 TD.sz57 TD.zraw57 rfl rfl rfl rfl rfl rfl rfl ?_
  refine r_build (parts := [(1, .const ((Go.Value.int Go.IntKind.i64 1))), (2, .const ((Go.Value.int Go.IntKind.u64 7)))]) rfl TD.pl57 TD.zero57 rfl rfl rfl ?_
  refine r_build (parts := [(1, .const ((Go.Value.int Go.IntKind.i64 2))), (2, .const ((Go.Value.int Go.IntKind.u64 3)))]) rfl TD.pl57 TD.zero57 rfl rfl rfl ?_
  refine r_lit 10 (parts := [(0, .tmp 8), (1, .tmp 9)]) rfl TD.sl52 TD.sz57 TD.zraw57 rfl rfl rfl rfl rfl rfl rfl ?_
  refine r_call0 hq rfl rfl (.cons (.ev rfl rfl) (.cons (.ev rfl rfl) .nil)) (entries_ok [⟨0, 1, 5⟩] [⟨0, 1, 7⟩, ⟨0, 2, 3⟩] (by simp) (by simp)) rfl TD.en17 rfl (fun r hr => ?_)
  obtain rfl := hr
  rw [show entriesF [⟨0, 1, 5⟩] [⟨0, 1, 7⟩, ⟨0, 2, 3⟩] = [⟨0, 1, 5, 7⟩, ⟨0, 2, 0, 3⟩] from by decide]
  refine r_assign rfl rfl ?_
  refine awl_nil ?_
  refine x_then ?_
  refine awp_seq ?_
  refine awp_region ?_
  refine r_build (parts := [(1, .const ((Go.Value.int Go.IntKind.i64 1))), (2, .const ((Go.Value.int Go.IntKind.u64 5)))]) rfl TD.pl57 TD.zero57 rfl rfl rfl ?_
  refine r_lit 14 (parts := [(0, .tmp 13)]) rfl TD.sl52 TD.sz57 TD.zraw57 rfl rfl rfl rfl rfl rfl rfl ?_
  refine r_move rfl rfl ?_
  refine r_call0 hq rfl rfl (.cons (.ev rfl rfl) (.cons (.ev rfl rfl) .nil)) (apply_ok [⟨0, 1, 5⟩] [⟨0, 1, 5, 7⟩, ⟨0, 2, 0, 3⟩] (by simp) (by simp)) rfl TD.en15 rfl (fun r hr => ?_)
  obtain rfl : r = .tup [entsA [⟨0, 1, 7⟩, ⟨0, 2, 3⟩], .v (.int .i64 0)] := by
    rcases hr with ⟨l', h1, h2⟩ | ⟨h1, _⟩
    · rw [show applyF [⟨0, 1, 5⟩] [⟨0, 1, 5, 7⟩, ⟨0, 2, 0, 3⟩] = some [⟨0, 2, 3⟩, ⟨0, 1, 7⟩, ⟨0, 1, 5⟩] from by decide] at h1
      cases h1
      rw [h2, show cleanF [⟨0, 2, 3⟩, ⟨0, 1, 7⟩, ⟨0, 1, 5⟩] = [⟨0, 1, 7⟩, ⟨0, 2, 3⟩] from by decide]
    · rw [show applyF [⟨0, 1, 5⟩] [⟨0, 1, 5, 7⟩, ⟨0, 2, 0, 3⟩] = some [⟨0, 2, 3⟩, ⟨0, 1, 7⟩, ⟨0, 1, 5⟩] from by decide] at h1; cases h1
  refine r_move rfl rfl ?_
  refine r_extract rfl rfl rfl ?_
  refine r_extract rfl rfl rfl ?_
  refine r_assign rfl rfl ?_
  refine r_assign rfl rfl ?_
  refine awl_nil ?_
  refine x_then ?_
  refine awp_seq ?_
  refine awp_region ?_
  refine r_move rfl rfl ?_
  refine r_call0 hq rfl rfl (.cons (.nil rfl) (.cons (.ev rfl rfl) .nil)) (apply_ok [] [⟨0, 1, 5, 7⟩, ⟨0, 2, 0, 3⟩] (by simp) (by simp)) rfl TD.en15 rfl (fun r hr => ?_)
  obtain rfl : r = .tup [.v (.slice none 0 0), .v (.int .i64 7)] := by
    rcases hr with ⟨l', h1, h2⟩ | ⟨_, h2⟩
    · rw [show applyF [] [⟨0, 1, 5, 7⟩, ⟨0, 2, 0, 3⟩] = none from by decide] at h1; cases h1
    · exact h2
  refine r_move rfl rfl ?_
  refine r_extract rfl rfl rfl ?_
  refine r_extract rfl rfl rfl ?_
  refine r_assign rfl rfl ?_
  refine r_assign rfl rfl ?_
  refine awl_nil ?_
  refine x_then ?_
  refine awp_seq ?_
  refine awp_region ?_
  refine r_move rfl rfl ?_
  first | (refine r_lenS rfl rfl TD.sl37 rfl ?_) | (refine r_lenNil rfl TD.sl37 rfl ?_) | (refine r_lenV rfl TD.sl37 rfl ?_)
  refine r_cmp rfl rfl rfl rfl ?_
  refine r_move rfl rfl ?_
  refine g_run rfl rfl rfl ?_
  refine r_move rfl rfl ?_
  refine g_run rfl rfl rfl ?_
  refine r_index rfl rfl rfl TD.sl37 TD.sz42 (by decide) rfl rfl ?_
  refine g_run rfl rfl rfl ?_
  refine r_loadA rfl TD.agg42 TD.sz42 rfl rfl ?_
  refine g_run rfl rfl rfl ?_
  refine r_build (parts := [(1, .const ((Go.Value.int Go.IntKind.i64 1))), (2, .const ((Go.Value.int Go.IntKind.u64 5))), (3, .const ((Go.Value.int Go.IntKind.u64 7)))]) rfl TD.pl42 TD.zero42 rfl rfl rfl ?_
  refine g_run rfl rfl rfl ?_
  refine r_seq (us := [0, 1, 5, 7]) (vs := [0, 1, 5, 7]) rfl rfl TD.mix42 (isVal_cells rfl) (isVal_cells rfl) rfl rfl rfl ?_
  refine r_pickT rfl rfl rfl rfl ?_
  refine r_move rfl rfl ?_
  refine g_run rfl rfl rfl ?_
  refine r_move rfl rfl ?_
  refine g_run rfl rfl rfl ?_
  refine r_index rfl rfl rfl TD.sl37 TD.sz42 (by decide) rfl rfl ?_
  refine g_run rfl rfl rfl ?_
  refine r_loadA rfl TD.agg42 TD.sz42 rfl rfl ?_
  refine g_run rfl rfl rfl ?_
  refine r_build (parts := [(1, .const ((Go.Value.int Go.IntKind.i64 2))), (3, .const ((Go.Value.int Go.IntKind.u64 3)))]) rfl TD.pl42 TD.zero42 rfl rfl rfl ?_
  refine g_run rfl rfl rfl ?_
  refine r_seq (us := [0, 2, 0, 3]) (vs := [0, 2, 0, 3]) rfl rfl TD.mix42 (isVal_cells rfl) (isVal_cells rfl) rfl rfl rfl ?_
  refine r_pickT rfl rfl rfl rfl ?_
  refine r_move rfl rfl ?_
  refine g_run rfl rfl rfl ?_
  refine r_move rfl rfl ?_
  refine g_run rfl rfl rfl ?_
  refine r_cmp rfl rfl rfl rfl ?_
  refine r_pickT rfl rfl rfl rfl ?_
  refine r_move rfl rfl ?_
  refine g_run rfl rfl rfl ?_
  refine r_move rfl rfl ?_
  refine g_run rfl rfl rfl ?_
  first | (refine r_lenS rfl rfl TD.sl52 rfl ?_) | (refine r_lenNil rfl TD.sl52 rfl ?_) | (refine r_lenV rfl TD.sl52 rfl ?_)
  refine g_run rfl rfl rfl ?_
  refine r_cmp rfl rfl rfl rfl ?_
  refine r_pickT rfl rfl rfl rfl ?_
  refine r_move rfl rfl ?_
  refine g_run rfl rfl rfl ?_
  refine r_move rfl rfl ?_
  refine g_run rfl rfl rfl ?_
  refine r_index rfl rfl rfl TD.sl52 TD.sz57 (by decide) rfl rfl ?_
  refine g_run rfl rfl rfl ?_
  first | (refine r_fieldcp rfl TD.f57_2 TD.sz31 rfl ?_) | (refine r_fieldpt rfl TD.f57_2 TD.sz31 rfl ?_) | (refine r_fieldb rfl TD.f57_2 TD.sz31 rfl ?_)
  refine g_run rfl rfl rfl ?_
  refine r_load1 rfl TD.agg31 rfl ?_
  refine g_run rfl rfl rfl ?_
  refine r_cmp rfl rfl rfl rfl ?_
  refine r_pickT rfl rfl rfl rfl ?_
  refine r_move rfl rfl ?_
  refine g_run rfl rfl rfl ?_
  refine r_move rfl rfl ?_
  refine g_run rfl rfl rfl ?_
  refine r_cmp rfl rfl rfl rfl ?_
  refine r_pickT rfl rfl rfl rfl ?_
  refine r_move rfl rfl ?_
  refine g_run rfl rfl rfl ?_
  refine r_move rfl rfl ?_
  refine g_run rfl rfl rfl ?_
  refine r_call0 hq rfl rfl (.cons (.ev rfl rfl) .nil) (turn_ok [⟨0, 1, 5, 7⟩, ⟨0, 2, 0, 3⟩] (by simp)) rfl TD.en18 rfl (fun r hr => ?_)
  obtain rfl := hr
  rw [show turnF [⟨0, 1, 5, 7⟩, ⟨0, 2, 0, 3⟩] = [⟨0, 2, 3, 0⟩, ⟨0, 1, 7, 5⟩] from by decide]
  refine g_run rfl rfl rfl ?_
  first | (refine r_lenS rfl rfl TD.sl37 rfl ?_) | (refine r_lenNil rfl TD.sl37 rfl ?_) | (refine r_lenV rfl TD.sl37 rfl ?_)
  refine g_run rfl rfl rfl ?_
  refine r_cmp rfl rfl rfl rfl ?_
  refine r_pickT rfl rfl rfl rfl ?_
  refine r_move rfl rfl ?_
  refine g_run rfl rfl rfl ?_
  refine r_move rfl rfl ?_
  refine g_run rfl rfl rfl ?_
  refine r_call0 hq rfl rfl (.cons (.ev rfl rfl) .nil) (turn_ok [⟨0, 1, 5, 7⟩, ⟨0, 2, 0, 3⟩] (by simp)) rfl TD.en18 rfl (fun r hr => ?_)
  obtain rfl := hr
  rw [show turnF [⟨0, 1, 5, 7⟩, ⟨0, 2, 0, 3⟩] = [⟨0, 2, 3, 0⟩, ⟨0, 1, 7, 5⟩] from by decide]
  refine g_run rfl rfl rfl ?_
  refine r_index rfl rfl rfl TD.sl37 TD.sz42 (by decide) rfl rfl ?_
  refine g_run rfl rfl rfl ?_
  refine r_loadA rfl TD.agg42 TD.sz42 rfl rfl ?_
  refine g_run rfl rfl rfl ?_
  refine r_build (parts := [(1, .const ((Go.Value.int Go.IntKind.i64 2))), (2, .const ((Go.Value.int Go.IntKind.u64 3)))]) rfl TD.pl42 TD.zero42 rfl rfl rfl ?_
  refine g_run rfl rfl rfl ?_
  refine r_seq (us := [0, 2, 3, 0]) (vs := [0, 2, 3, 0]) rfl rfl TD.mix42 (isVal_cells rfl) (isVal_cells rfl) rfl rfl rfl ?_
  refine r_pickT rfl rfl rfl rfl ?_
  refine r_assign rfl rfl ?_
  refine awl_nil ?_
  refine x_then ?_
  refine awp_ret ?_
  exact ⟨(.inl rfl), _, [], (.one (by first | exact .mk rfl rfl | exact .nil rfl)), ⟨rfl, rfl⟩, (List.nil_sublist _), (by simp)⟩
end Go.Proofs.Ytpkodkoooaldlaa.A
namespace Go.Proofs.Ytpkodkoooaldlaa.A
open Go Go.RowKit
set_option linter.unusedVariables false
set_option linter.unusedSimpArgs false
set_option maxRecDepth 100000
theorem TV.en28 : entersT Try.prog 28 := enters_of Try.func28 (by kernel_rfl) (by kernel_rfl)
theorem TV.sz57 : szT Try.prog 57 = some 3 := by kernel_rfl
theorem TV.agg52 : aggT Try.prog 52 = some false := by kernel_rfl
theorem TV.agg57 : aggT Try.prog 57 = some true := by kernel_rfl
theorem TV.sl52 : sliceT Try.prog 52 = some 57 := by kernel_rfl
theorem TV.zraw57 : zeroT Try.prog 57 = some [(.int .i64 0), (.int .i64 0), (.int .u64 0)] := by kernel_rfl
theorem TV.by57 : bytesT Try.prog 57 = some 24 := by kernel_rfl
theorem TV.zlen57 : (zeroT Try.prog 57).map (·.length) = some 3 := by kernel_rfl
theorem TV.sz52 : szT Try.prog 52 = some 1 := by kernel_rfl
theorem TV.en36 : entersT Try.prog 36 := enters_of Try.func36 (by kernel_rfl) (by kernel_rfl)
theorem TV.en14 : entersT Try.prog 14 := enters_of Try.func14 (by kernel_rfl) (by kernel_rfl)
theorem TV.en23 : entersT Try.prog 23 := enters_of Try.func23 (by kernel_rfl) (by kernel_rfl)
theorem TV.en17 : entersT Try.prog 17 := enters_of Try.func17 (by kernel_rfl) (by kernel_rfl)
theorem eA_inj : ∀ {a b : List Ent}, a.map eA = b.map eA → a = b
  | [], [], _ => rfl
  | [], _ :: _, h => by simp at h
  | _ :: _, [], h => by simp at h
  | x :: a, y :: b, h => by
    simp only [List.map_cons, List.cons.injEq] at h
    obtain ⟨h1, h2⟩ := h
    have : x = y := by
      obtain ⟨v, b, n⟩ := x; obtain ⟨v', b', n'⟩ := y
      simp [eA, Ent.cs] at h1
      obtain ⟨rfl, rfl, rfl⟩ := h1; rfl
    rw [this, eA_inj h2]
theorem allV_small {x : List It} {L : List St} {vs bs : Nat} (hv : vs ≤ 8) (hb : bs ≤ 64) : (allV x L vs bs).length ≤ 512 := by
  have := allV_len x L vs bs
  have h2 : vs * bs ≤ 8 * 64 := Nat.mul_le_mul hv hb
  omega
theorem appendSeqE_ok (t : TreeV) (x : List It) (hG : GoodT t x) (L : List St) (hL : L.length ≤ 1000) (m : Int) (vs bs : Nat) (hv : vs ≤ 8) (hb : bs ≤ 64) : AC Try.prog 36 [.v (.slice none 0 0), .fn 28 [.cp [.v (.int .i64 ((vs : Int)))], .cp [.v (.int .i64 ((bs : Int)))], .cp [encT t, .sl 3 (L.map St.cs), .v (.int .u64 (m))]]] [] (fun r n => n = [] ∧ r = entsA (allV x L vs bs)) := by
 refine ac_of_awp (rs := [4]) (nt := 13) Try.func36 rfl rfl rfl rfl (fun w0 C0 hq => ?_)
 refine awp_seq ?_
 refine awp_region ?_
 refine r_box rfl rfl rfl (fun b2 => ?_)
 refine r_assign rfl rfl ?_
 refine awl_nil ?_
 refine x_then ?_
 refine awp_seq ?_
 refine awp_seq ?_
 refine awp_region ?_
 refine r_move rfl rfl ?_
 refine awl_nil ?_
 refine x_then ?_
 refine awp_block ?_
 refine awp_rangeFuncS (fun pre wo => ∃ l : List Ent, pre = l.map eA ∧ GrowB b2 3 57 (l.map Ent.cs) wo) (fun _ _ _ => False) [(2, .a (.v (.pointer (some ⟨b2, 0, none⟩))))] [true] hq rfl (viewAll1_ok t x hG L hL m vs bs hv (by omega)) TV.en28 (fun pre x ⟨e, _, _, h⟩ => by subst h; rfl) rfl rfl rfl (List.nil_sublist _) (Slots.cons rfl (by first | exact .refl _ | exact .nilOwn _ _ | exact .nilSl _ | exact .ownSl _ _ _  | exact SV.le.of_eq (by simp)) Slots.nil) rfl rfl ⟨[], rfl, .inl ⟨rfl, rfl⟩⟩ ?_ ?_ ?_
 ·
  intro lr pre x wo rec busy w0 C0 hq hj hax
  obtain ⟨l, rfl, hgb⟩ := hj
  obtain ⟨e, het, _, rfl⟩ := hax
  have hll : l.length < (allV x L vs bs).length := by have := (List.getElem?_eq_some_iff.1 het).1; simpa using this
  have hal := allV_small (x := x) (L := L) hv hb
  rcases hgb with ⟨h0, rfl⟩ | ⟨h0, g, cap, rfl⟩
  ·
   obtain rfl : l = [] := by simpa using h0
   refine awpi_region ?_
   refine awli_op (fun c h => (by cases h)) ?_
   refine r_alloc TV.zero57 rfl (fun b5 => ?_)
   refine awl_nil ⟨rfl, ?_⟩
   refine awli_op (fun c h => (by cases h)) ?_
   first | (refine r_store 0 rfl rfl rfl TV.sz57 rfl rfl rfl ?_) | (refine r_store 1 rfl rfl rfl TV.sz57 rfl rfl rfl ?_) | (refine r_store 2 rfl rfl rfl TV.sz57 rfl rfl rfl ?_) | (refine r_store 3 rfl rfl rfl TV.sz57 rfl rfl rfl ?_)
   refine awl_nil ⟨rfl, ?_⟩
   refine awli_nil ?_
   refine ⟨rfl, 2, rfl, ?_⟩
   refine awpi_block ?_
   refine awpi_region ?_
   refine awli_op (fun c h => (by cases h)) ?_
   first | (refine r_load1 rfl TV.agg52 rfl ?_) | (refine r_load1b 0 rfl rfl rfl TV.agg52 rfl ?_) | (refine r_load1b 1 rfl rfl rfl TV.agg52 rfl ?_) | (refine r_load1b 2 rfl rfl rfl TV.agg52 rfl ?_) | (refine r_load1b 3 rfl rfl rfl TV.agg52 rfl ?_)
   refine awl_nil ⟨rfl, ?_⟩
   refine awli_op (fun c h => (by cases h)) ?_
   first | (refine r_loadA rfl TV.agg57 TV.sz57 rfl rfl ?_) | (refine r_loadAb 0 rfl rfl TV.agg57 TV.sz57 rfl rfl ?_) | (refine r_loadAb 1 rfl rfl TV.agg57 TV.sz57 rfl rfl ?_) | (refine r_loadAb 2 rfl rfl TV.agg57 TV.sz57 rfl rfl ?_) | (refine r_loadAb 3 rfl rfl TV.agg57 TV.sz57 rfl rfl ?_)
   refine awl_nil ⟨rfl, ?_⟩
   refine awli_op (fun c h => (by cases h)) ?_
   refine r_lit 10 (parts := [(0, .tmp 9)]) rfl TV.sl52 TV.sz57 TV.zraw57 rfl rfl rfl rfl rfl rfl rfl ?_
   refine awl_nil ⟨rfl, ?_⟩
   refine awli_op (fun c h => (by cases h)) ?_
   refine r_appendBN rfl rfl (by first | exact .sl _ | exact .own _ _) (by simp [chunks]) TV.sl52 TV.sz57 TV.by57 TV.zlen57 (by simp [chunks] <;> omega) (by simp [chunks] <;> omega) rfl (fun gb gc => ?_)
   refine awl_nil ⟨rfl, ?_⟩
   refine awli_op (fun c h => (by cases h)) ?_
   first | (refine r_store 0 rfl rfl rfl TV.sz52 rfl rfl rfl ?_) | (refine r_store 1 rfl rfl rfl TV.sz52 rfl rfl rfl ?_) | (refine r_store 2 rfl rfl rfl TV.sz52 rfl rfl rfl ?_) | (refine r_store 3 rfl rfl rfl TV.sz52 rfl rfl rfl ?_) | (refine r_store 4 rfl rfl rfl TV.sz52 rfl rfl rfl ?_)
   refine awl_nil ⟨rfl, ?_⟩
   refine awli_nil ?_
   refine x_block ?_
   refine ⟨_, .inl ⟨rfl, [e], rfl, .inr ⟨by simp, gb, gc, rfl⟩⟩, ?_, by simp⟩
   first | exact List.Sublist.refl _ | exact .cons_cons _ (.cons _ (.refl _)) | exact List.nil_sublist _ | exact .cons _ (.refl _) | exact .cons _ (.cons _ (.refl _)) | exact .cons _ (.cons _ (.cons _ (.refl _))) | exact .cons _ (.cons _ (.cons _ (.cons _ (.refl _)))) | exact .cons_cons _ (List.nil_sublist _)
  ·
   refine awpi_region ?_
   refine awli_op (fun c h => (by cases h)) ?_
   refine r_alloc TV.zero57 rfl (fun b5 => ?_)
   refine awl_nil ⟨rfl, ?_⟩
   refine awli_op (fun c h => (by cases h)) ?_
   first | (refine r_store 0 rfl rfl rfl TV.sz57 rfl rfl rfl ?_) | (refine r_store 1 rfl rfl rfl TV.sz57 rfl rfl rfl ?_) | (refine r_store 2 rfl rfl rfl TV.sz57 rfl rfl rfl ?_) | (refine r_store 3 rfl rfl rfl TV.sz57 rfl rfl rfl ?_) | (refine r_store 4 rfl rfl rfl TV.sz57 rfl rfl rfl ?_)
   refine awl_nil ⟨rfl, ?_⟩
   refine awli_nil ?_
   refine ⟨rfl, 3, rfl, ?_⟩
   refine awpi_block ?_
   refine awpi_region ?_
   refine awli_op (fun c h => (by cases h)) ?_
   first | (refine r_load1 rfl TV.agg52 rfl ?_) | (refine r_load1b 0 rfl rfl rfl TV.agg52 rfl ?_) | (refine r_load1b 1 rfl rfl rfl TV.agg52 rfl ?_) | (refine r_load1b 2 rfl rfl rfl TV.agg52 rfl ?_) | (refine r_load1b 3 rfl rfl rfl TV.agg52 rfl ?_) | (refine r_load1b 4 rfl rfl rfl TV.agg52 rfl ?_)
   refine awl_nil ⟨rfl, ?_⟩
   refine awli_op (fun c h => (by cases h)) ?_
   first | (refine r_loadA rfl TV.agg57 TV.sz57 rfl rfl ?_) | (refine r_loadAb 0 rfl rfl TV.agg57 TV.sz57 rfl rfl ?_) | (refine r_loadAb 1 rfl rfl TV.agg57 TV.sz57 rfl rfl ?_) | (refine r_loadAb 2 rfl rfl TV.agg57 TV.sz57 rfl rfl ?_) | (refine r_loadAb 3 rfl rfl TV.agg57 TV.sz57 rfl rfl ?_) | (refine r_loadAb 4 rfl rfl TV.agg57 TV.sz57 rfl rfl ?_)
   refine awl_nil ⟨rfl, ?_⟩
   refine awli_op (fun c h => (by cases h)) ?_
   refine r_lit 10 (parts := [(0, .tmp 9)]) rfl TV.sl52 TV.sz57 TV.zraw57 rfl rfl rfl rfl rfl rfl rfl ?_
   refine awl_nil ⟨rfl, ?_⟩
   refine awli_op (fun c h => (by cases h)) ?_
   refine r_appendBG 1 rfl rfl rfl rfl (by first | exact .sl _ | exact .own _ _) (by simp [chunks]) TV.sl52 TV.sz57 TV.by57 TV.zlen57 (by simp [chunks] <;> omega) (by simp [chunks] <;> omega) rfl (fun gb gc => ?_)
   refine awl_nil ⟨rfl, ?_⟩
   refine awli_op (fun c h => (by cases h)) ?_
   first | (refine r_store 0 rfl rfl rfl TV.sz52 rfl rfl rfl ?_) | (refine r_store 1 rfl rfl rfl TV.sz52 rfl rfl rfl ?_) | (refine r_store 2 rfl rfl rfl TV.sz52 rfl rfl rfl ?_) | (refine r_store 3 rfl rfl rfl TV.sz52 rfl rfl rfl ?_) | (refine r_store 4 rfl rfl rfl TV.sz52 rfl rfl rfl ?_)
   refine awl_nil ⟨rfl, ?_⟩
   refine awli_nil ?_
   refine x_block ?_
   refine ⟨_, .inl ⟨rfl, l ++ [e], by simp, .inr ⟨by simp, gb, gc, rfl⟩⟩, ?_, by simp⟩
   simp only [List.map_append, List.map_cons, List.map_nil]
   first | exact List.Sublist.refl _ | exact .cons_cons _ (.cons _ (.refl _)) | exact List.nil_sublist _ | exact .cons _ (.refl _) | exact .cons _ (.cons _ (.refl _)) | exact .cons _ (.cons _ (.cons _ (.refl _))) | exact .cons _ (.cons _ (.cons _ (.cons _ (.refl _)))) | exact .cons_cons _ (List.nil_sublist _)
 ·
  intro xs wo' hG hJ
  obtain ⟨l, rfl, hgb⟩ := hJ
  obtain rfl := eA_inj hG
  rcases hgb with ⟨h0, rfl⟩ | ⟨h0, g, cap, rfl⟩
  ·
   refine x_block ?_
   refine x_then ?_
   refine awp_seq ?_
   refine awp_region ?_
   first | (refine r_load1 rfl TV.agg52 rfl ?_) | (refine r_load1b 0 rfl rfl rfl TV.agg52 rfl ?_) | (refine r_load1b 1 rfl rfl rfl TV.agg52 rfl ?_)
   refine r_assign rfl rfl ?_
   refine awl_nil ?_
   refine x_then ?_
   refine awp_ret ?_
   exact ⟨(.inl rfl), _, [], (.one (.nil (sz := 3) rfl)), ⟨rfl, by rw [entsA, h0]⟩, (List.nil_sublist _), (by simp)⟩
  ·
   refine x_block ?_
   refine x_then ?_
   refine awp_seq ?_
   refine awp_region ?_
   first | (refine r_load1 rfl TV.agg52 rfl ?_) | (refine r_load1b 0 rfl rfl rfl TV.agg52 rfl ?_) | (refine r_load1b 1 rfl rfl rfl TV.agg52 rfl ?_)
   refine awl_imp (imp_commitB 0 12 rfl (by simp) rfl) ?_
   refine r_assign rfl rfl ?_
   refine awl_nil ?_
   refine x_then ?_
   refine awp_ret ?_
   exact ⟨(.inl rfl), _, [], (.one (by first | exact .mk rfl rfl | exact .nil rfl)), ⟨rfl, rfl⟩, (List.nil_sublist _), (by simp)⟩
 ·
  intro c xs wo' hX
  exact hX.elim
theorem collectE_ok (t : TreeV) (x : List It) (hG : GoodT t x) (L : List St) (hL : L.length ≤ 1000) (m : Int) (vs bs : Nat) (hv : vs ≤ 8) (hb : bs ≤ 64) : AC Try.prog 23 [.fn 28 [.cp [.v (.int .i64 ((vs : Int)))], .cp [.v (.int .i64 ((bs : Int)))], .cp [encT t, .sl 3 (L.map St.cs), .v (.int .u64 (m))]]] [] (fun r n => n = [] ∧ r = entsA (allV x L vs bs)) := by
 refine ac_of_awp (rs := [2]) (nt := 5) Try.func23 rfl rfl rfl rfl (fun w0 C0 hq => ?_)
 refine awp_seq ?_
 refine awp_region ?_
 refine r_assign rfl rfl ?_
 refine awl_nil ?_
 refine x_then ?_
 refine awp_seq ?_
 refine awp_region ?_
 refine r_move rfl rfl ?_
 refine r_call0 hq rfl rfl (.cons (.ev rfl rfl) (.cons (.ev rfl rfl) .nil)) (appendSeqE_ok t x hG L hL m vs bs hv hb) rfl TV.en36 rfl (fun r hr => ?_)
 obtain rfl := hr
 refine r_assign rfl rfl ?_
 refine awl_nil ?_
 refine x_then ?_
 refine awp_ret ?_
 exact ⟨(.inl rfl), _, [], (.one (by first | exact .mk rfl rfl | exact .nil rfl)), ⟨rfl, rfl⟩, (List.nil_sublist _), (by simp)⟩
theorem of_ok (t : TreeV) (x : List It) (hG : GoodT t x) (L : List St) (hL : L.length ≤ 1000) (m : Int) (vs bs : Nat) (hv : vs ≤ 8) (hb : bs ≤ 64) (t2 : TreeV) (x2 : List It) (hG2 : GoodT t2 x2) (L2 : List St) (hL2 : L2.length ≤ 1000) (m2 : Int) : AC Try.prog 10 [viewA t L m, viewA t2 L2 m2, .v (.int .i64 (vs : Int)), .v (.int .i64 (bs : Int))] [] (fun r n => n = [] ∧ r = chgsA (entriesF (allV x L vs bs) (allV x2 L2 vs bs))) := by
 refine ac_of_awp (rs := [8]) (nt := 20) Try.func10 rfl rfl rfl rfl (fun w0 C0 hq => ?_)
 refine awp_seq ?_
 refine awp_region ?_
 refine r_box rfl rfl rfl (fun b4 => ?_)
 refine r_box rfl rfl rfl (fun b5 => ?_)
 refine r_assign rfl rfl ?_
 refine awl_nil ?_
 refine x_then ?_
 refine awp_seq ?_
 refine awp_drawS [9, 10, 11, 12, 13, 14, 15, 16] [_, _, _, _, _, _, _, _] [] [] TV.mixed rfl rfl rfl ⟨⟨⟨⟨⟨⟨⟨⟨trivial
  , ⟨_, rfl, fun sl hd hr ho => by
    refine r_loadAb 1 (hr 4 _ rfl rfl rfl) rfl TV.agg33 TV.sz33 rfl rfl ?_
    exact awl_nil ⟨rfl, post_put⟩⟩⟩
  , ⟨_, rfl, fun sl hd hr ho => by
    refine r_move (hr 2 _ rfl rfl rfl) rfl ?_
    exact awl_nil ⟨rfl, post_put⟩⟩⟩
  , ⟨_, rfl, fun sl hd hr ho => by
    refine r_move (hr 3 _ rfl rfl rfl) rfl ?_
    exact awl_nil ⟨rfl, post_put⟩⟩⟩
  , ⟨_, rfl, fun sl hd hr ho => by
    refine r_call0 hq rfl rfl (.cons (.ev (hd 0 _ rfl rfl rfl) rfl) (.cons (.ev (hd 1 _ rfl rfl rfl) rfl) (.cons (.ev (hd 2 _ rfl rfl rfl) rfl) .nil))) (viewAll_ok t L m vs bs hv (by omega)) rfl TV.en14 rfl (fun r hr => ?_)
    obtain rfl := hr
    exact awl_nil ⟨rfl, post_put⟩⟩⟩
  , ⟨_, rfl, fun sl hd hr ho => by
    refine r_call0 hq rfl rfl (.cons (.ev (hd 3 _ rfl rfl rfl) rfl) .nil) (collectE_ok t x hG L hL m vs bs hv hb) rfl TV.en23 rfl (fun r hr => ?_)
    obtain rfl := hr
    exact awl_nil ⟨rfl, post_put⟩⟩⟩
  , ⟨_, rfl, fun sl hd hr ho => by
    refine r_loadAb 0 (hr 5 _ rfl rfl rfl) rfl TV.agg33 TV.sz33 rfl rfl ?_
    exact awl_nil ⟨rfl, post_put⟩⟩⟩
  , ⟨_, rfl, fun sl hd hr ho => by
    refine r_move (hr 2 _ rfl rfl rfl) rfl ?_
    exact awl_nil ⟨rfl, post_put⟩⟩⟩
  , ⟨_, rfl, fun sl hd hr ho => by
    refine r_move (hr 3 _ rfl rfl rfl) rfl ?_
    exact awl_nil ⟨rfl, post_put⟩⟩⟩
  (by rfl) ?_
 refine r_call0 hq rfl rfl (.cons (.ev rfl rfl) (.cons (.ev rfl rfl) (.cons (.ev rfl rfl) .nil))) (viewAll_ok t2 L2 m2 vs bs hv (by omega)) rfl TV.en14 rfl (fun r hr => ?_)
 obtain rfl := hr
 refine r_call0 hq rfl rfl (.cons (.ev rfl rfl) .nil) (collectE_ok t2 x2 hG2 L2 hL2 m2 vs bs hv hb) rfl TV.en23 rfl (fun r hr => ?_)
 obtain rfl := hr
 refine r_call0 hq rfl rfl (.cons (.ev rfl rfl) (.cons (.ev rfl rfl) .nil)) (entries_ok (allV x L vs bs) (allV x2 L2 vs bs) (by have := allV_small (x := x) (L := L) hv hb; omega) (by have := allV_small (x := x2) (L := L2) hv hb; omega)) rfl TV.en17 rfl (fun r hr => ?_)
 obtain rfl := hr
 refine r_assign rfl rfl ?_
 refine awl_nil ?_
 refine x_then ?_
 refine awp_ret ?_
 exact ⟨(.inl rfl), _, [], (.one (by first | exact .mk rfl rfl | exact .nil rfl)), ⟨rfl, rfl⟩, (List.nil_sublist _), (by simp)⟩
end Go.Proofs.Ytpkodkoooaldlaa.A
namespace Go.Proofs.Ytpkodkoooaldlaa.A
open Go Go.RowKit
set_option linter.unusedVariables false
set_option linter.unusedSimpArgs false
structure FA where
  fork : Bool
  b : Nat
  v : Nat
  k : Nat
  n : Nat
def FA.cs (a : FA) : List AV := [.v (.bool a.fork), .v (.int .u8 (a.b : Int)), .v (.int .u8 (a.v : Int)), .v (.int .u8 (a.k : Int)), .v (.int .u8 (a.n : Int))]
structure FA.ok (a : FA) : Prop where
  b : a.b < 256
  v : a.v < 256
  k : a.k < 256
  n : a.n < 256
structure Lay (t : TreeV) (x : List It) (F : List Tw) (k : Nat) : Prop where
  idx : Idx t x
  fo : Fo F
  len : x.length ≤ k
  nums : ∀ z ∈ x, 1 ≤ z.1.nu ∧ z.1.nu ≤ k
  brs : ∀ z ∈ x, 0 ≤ z.1.br ∧ z.1.br ≤ 2
  dead : ∀ (i : Nat) (w : Tw), 3 ≤ i → F[i]? = some w → w.alive = false
theorem lay_new : Lay (some (none, 0)) [] newF 0 := ⟨Idx.new, fo_new, Nat.le_refl _, fun z h => by simp at h, fun z h => by simp at h, fun i w h hw => by
  unfold newF at hw
  rw [List.getElem?_replicate] at hw
  split at hw
  · cases hw; rfl
  · cases hw⟩
theorem forkF_get {F : List Tw} {i j q : Nat} {base num : Int} (h : i ≠ q) : (forkF F i j base num).2[q]? = F[q]? := by
  unfold forkF
  split
  · rfl
  · split
    · rfl
    · split
      · rfl
      · exact List.getElem?_set_ne h
theorem Lay.fork {t : TreeV} {x : List It} {F : List Tw} {k : Nat} (h : Lay t x F k) {i j : Nat} (h1 : 1 ≤ i) (h2 : i ≤ 2) (hj : j ≤ i) (base num : Int) : Lay t x (forkF F i j base num).2 (k + 1) :=
  ⟨h.idx, fo_forkF h.fo h1 (by omega) hj base num, Nat.le_succ_of_le h.len, fun z hz => by have := h.nums z hz; omega, h.brs, fun q w hq hw => by rw [forkF_get (by omega)] at hw; exact h.dead q w hq hw⟩
theorem top_le {x : List It} (hs : Srt x) {p : Sp} {m v : Int} (h : topN x p m = some v) : ∃ z ∈ x, z.1.nu = v ∧ z.1 = atM p v := by
  obtain ⟨⟨z, hz, e⟩, _, _⟩ := (top_iff hs).1 h
  exact ⟨z, hz, by rw [e]; rfl, e⟩
theorem Lay.free {t : TreeV} {x : List It} {F : List Tw} {k : Nat} (h : Lay t x F k) (p : Sp) (hp : p.nu = (k : Int) + 1) : 0 < p.nu ∧ ∀ v, topN x p 18446744073709551615 = some v → v < p.nu :=
  ⟨by omega, fun v hv => by obtain ⟨z, hz, e, _⟩ := top_le h.idx.good.st hv; have := h.nums z hz; omega⟩
theorem Lay.put {t t' : TreeV} {x : List It} {F : List Tw} {k : Nat} (h : Lay t x F k) {p : Sp} (hp : p.nu = (k : Int) + 1) (hb : 0 ≤ p.br ∧ p.br ≤ 2) (hI : Idx t' (refPut x p p.nu)) : Lay t' (refPut x p p.nu) F (k + 1) :=
  ⟨hI, h.fo, Nat.le_trans (refPut_len _ _ _) (Nat.succ_le_succ h.len), fun z hz => by
    rcases (put_mem h.idx.good.st).1 hz with rfl | ⟨h1, _⟩
    · simp only; omega
    · have := h.nums z h1; omega, fun z hz => by
    rcases (put_mem h.idx.good.st).1 hz with rfl | ⟨h1, _⟩
    · exact hb
    · exact h.brs z h1, h.dead⟩
def rowG {α : Type} (f : Nat → Nat → Option α) (vol n : Nat) : List α := (List.range n).filterMap (f vol)
def allG {α : Type} (f : Nat → Nat → Option α) (m n : Nat) : List α := (List.range m).flatMap fun vol => rowG f vol n
theorem allV_allG (x : List It) (L : List St) (m n : Nat) : allV x L m n = allG (entV x L) m n := rfl
theorem rowG_succ {α : Type} (f : Nat → Nat → Option α) (vol n : Nat) : rowG f vol (n + 1) = rowG f vol n ++ (f vol n).toList := by
  unfold rowG; rw [List.range_succ, List.filterMap_append, List.filterMap_cons]; cases f vol n <;> rfl
theorem allG_succ {α : Type} (f : Nat → Nat → Option α) (m n : Nat) : allG f (m + 1) n = allG f m n ++ rowG f m n := by
  unfold allG; rw [List.range_succ, List.flatMap_append]; simp
theorem allG_split {α : Type} (f : Nat → Nat → Option α) {m n vol blk : Nat} {e : α} (h1 : vol < m) (h2 : blk < n) (he : f vol blk = some e) : ∃ r, allG f m n = (allG f vol n ++ rowG f vol blk) ++ e :: r := by
  have k1 : ∀ d, ∃ r, rowG f vol (blk + 1 + d) = rowG f vol blk ++ e :: r := by
    intro d
    induction d with
    | zero => exact ⟨[], by rw [Nat.add_zero, rowG_succ, he]; rfl⟩
    | succ d ih => obtain ⟨r, hr⟩ := ih; exact ⟨r ++ (f vol (blk + 1 + d)).toList, by rw [show blk + 1 + (d + 1) = blk + 1 + d + 1 by omega, rowG_succ, hr]; simp⟩
  obtain ⟨r, hr⟩ := k1 (n - (blk + 1))
  rw [show blk + 1 + (n - (blk + 1)) = n by omega] at hr
  have k2 : ∀ d, ∃ r, allG f (vol + 1 + d) n = (allG f vol n ++ rowG f vol blk) ++ e :: r := by
    intro d
    induction d with
    | zero => exact ⟨r, by rw [Nat.add_zero, allG_succ, hr]; simp⟩
    | succ d ih => obtain ⟨r, h⟩ := ih; exact ⟨r ++ rowG f (vol + 1 + d) n, by rw [show vol + 1 + (d + 1) = vol + 1 + d + 1 by omega, allG_succ, h]; simp⟩
  obtain ⟨r2, hr2⟩ := k2 (m - (vol + 1))
  rw [show vol + 1 + (m - (vol + 1)) = m by omega] at hr2
  exact ⟨r2, hr2⟩
theorem allG_mem {α : Type} {f : Nat → Nat → Option α} {m n : Nat} {e : α} : e ∈ allG f m n ↔ ∃ vol blk, vol < m ∧ blk < n ∧ f vol blk = some e := by
  unfold allG rowG
  simp only [List.mem_flatMap, List.mem_range, List.mem_filterMap]
  exact ⟨fun ⟨v, h1, b, h2, h3⟩ => ⟨v, b, h1, h2, h3⟩, fun ⟨v, b, h1, h2, h3⟩ => ⟨v, h1, b, h2, h3⟩⟩
theorem allG_congr {α : Type} {f g : Nat → Nat → Option α} {m n : Nat} (h : ∀ vol blk, vol < m → blk < n → f vol blk = g vol blk) : allG f m n = allG g m n := by
  have hr : ∀ vol, vol < m → ∀ b, b ≤ n → rowG f vol b = rowG g vol b := by
    intro vol hv b
    induction b with
    | zero => intro _; rfl
    | succ b ih => intro hb; rw [rowG_succ, rowG_succ, ih (by omega), h vol b hv (by omega)]
  have : ∀ k, k ≤ m → allG f k n = allG g k n := by
    intro k
    induction k with
    | zero => intro _; rfl
    | succ k ih => intro hk; rw [allG_succ, allG_succ, ih (by omega), hr k (by omega) n (Nat.le_refl _)]
  exact this m (Nat.le_refl _)
def gridP (m n : Nat) : List PL := allG (fun vol blk => some ((vol : Int), (blk : Int))) m n
theorem grid_mem {m n : Nat} {p : PL} : p ∈ gridP m n ↔ ∃ vol blk : Nat, vol < m ∧ blk < n ∧ p = ((vol : Int), (blk : Int)) := by
  unfold gridP
  rw [allG_mem]
  exact ⟨fun ⟨v, b, h1, h2, h3⟩ => ⟨v, b, h1, h2, by cases h3; rfl⟩, fun ⟨v, b, h1, h2, h3⟩ => ⟨v, b, h1, h2, by rw [h3]⟩⟩
theorem grid_sorted (m n : Nat) : SortedP (gridP m n) := by
  unfold gridP SortedP
  have hrow : ∀ vol b, (rowG (fun vol blk => some ((vol : Int), (blk : Int))) vol b).Pairwise (fun a b : PL => ltP a b = true) ∧ ∀ p ∈ rowG (fun vol blk => some ((vol : Int), (blk : Int))) vol b, p.1 = (vol : Int) ∧ p.2 < (b : Int) := by
    intro vol b
    induction b with
    | zero => exact ⟨List.Pairwise.nil, fun p h => by cases h⟩
    | succ b ih =>
      obtain ⟨i1, i2⟩ := ih
      rw [rowG_succ]
      refine ⟨List.pairwise_append.2 ⟨i1, by simp, fun p hp q hq => ?_⟩, fun p hp => ?_⟩
      · simp at hq; subst hq; rw [ltP_iff]; have := i2 p hp; right; simp only; exact ⟨this.1, this.2⟩
      · rcases List.mem_append.1 hp with h | h
        · have := i2 p h; omega
        · simp at h; subst h; exact ⟨rfl, by show (b : Int) < ((b + 1 : Nat) : Int); omega⟩
  have : ∀ k, (allG (fun vol blk => some ((vol : Int), (blk : Int))) k n).Pairwise (fun a b : PL => ltP a b = true) ∧ ∀ p ∈ allG (fun vol blk => some ((vol : Int), (blk : Int))) k n, p.1 < (k : Int) := by
    intro k
    induction k with
    | zero => exact ⟨List.Pairwise.nil, fun p h => by cases h⟩
    | succ k ih =>
      obtain ⟨i1, i2⟩ := ih
      obtain ⟨r1, r2⟩ := hrow k n
      rw [allG_succ]
      refine ⟨List.pairwise_append.2 ⟨i1, r1, fun p hp q hq => ?_⟩, fun p hp => ?_⟩
      · rw [ltP_iff]; have := i2 p hp; have := r2 q hq; omega
      · rcases List.mem_append.1 hp with h | h
        · have := i2 p h; omega
        · have := r2 p h; omega
  exact (this m).1
theorem fm_filter {α β : Type} (f : α → Option β) : ∀ (l : List α), l.filterMap f = (l.filter fun a => (f a).isSome).filterMap f
  | [] => rfl
  | a :: l => by
    rw [List.filterMap_cons]
    cases h : f a with
    | none => rw [List.filter_cons_of_neg (by rw [h]; simp)]; exact fm_filter f l
    | some b => rw [List.filter_cons_of_pos (by rw [h]; rfl), List.filterMap_cons, h]; exact congrArg (b :: ·) (fm_filter f l)
theorem fm_sorted {β : Type} {f : PL → Option β} {P Q : List PL} (hP : SortedP P) (hQ : SortedP Q) (h : ∀ p, (f p).isSome = true → (p ∈ P ↔ p ∈ Q)) : P.filterMap f = Q.filterMap f := by
  rw [fm_filter f P, fm_filter f Q]
  congr 1
  refine sortedP_ext (List.Pairwise.filter _ hP) (List.Pairwise.filter _ hQ) (fun p => ?_)
  simp only [List.mem_filter]
  exact ⟨fun ⟨h1, h2⟩ => ⟨(h p h2).1 h1, h2⟩, fun ⟨h1, h2⟩ => ⟨(h p h2).2 h1, h2⟩⟩
theorem grid_fm {β : Type} (f : PL → Option β) (m n : Nat) : (gridP m n).filterMap f = allG (fun vol blk => f ((vol : Int), (blk : Int))) m n := by
  have hrow : ∀ vol b, (rowG (fun vol blk => some ((vol : Int), (blk : Int))) vol b).filterMap f = rowG (fun vol blk => f ((vol : Int), (blk : Int))) vol b := by
    intro vol b
    induction b with
    | zero => rfl
    | succ b ih => rw [rowG_succ, rowG_succ, List.filterMap_append, ih]; exact congrArg (_ ++ ·) (by simp only [Option.toList_some, List.filterMap_cons, List.filterMap_nil]; cases f (↑vol, ↑b) <;> rfl)
  unfold gridP
  induction m with
  | zero => rfl
  | succ k ih => rw [allG_succ, allG_succ, List.filterMap_append, ih, hrow]
theorem allV_shows (x : List It) (L : List St) {m n vol blk : Nat} (h1 : vol < m) (h2 : blk < n) : shows (allV x L m n) ((vol : Int), (blk : Int)) = (numV x L vol blk).getD 0 := by
  rw [allV_allG]
  cases hv : numV x L vol blk with
  | none =>
    refine shows_zero ?_
    rintro ⟨e, he, hp⟩
    obtain ⟨v, b, k1, k2, k3⟩ := allG_mem.1 he
    unfold entV at k3
    cases hq : numV x L v b with
    | none => rw [hq] at k3; cases k3
    | some y =>
      rw [hq] at k3; cases k3
      simp only [Ent.pl, Prod.mk.injEq] at hp
      obtain ⟨e1, e2⟩ := hp
      rw [e1, e2, hv] at hq; cases hq
  | some y =>
    have hev : entV x L vol blk = some ⟨vol, blk, y⟩ := by unfold entV; rw [hv]; rfl
    obtain ⟨r, hr⟩ := allG_split (entV x L) h1 h2 hev
    unfold shows
    have hn : (allG (entV x L) vol n ++ rowG (entV x L) vol blk).find? (fun e : Ent => decide (e.pl = ((vol : Int), (blk : Int)))) = none := by
      refine List.find?_eq_none.2 (fun e he => ?_)
      simp only [decide_eq_true_eq]
      intro hp
      rcases List.mem_append.1 he with h | h
      · obtain ⟨v, b, k1, k2, k3⟩ := allG_mem.1 h
        unfold entV at k3
        cases hq : numV x L v b with
        | none => rw [hq] at k3; cases k3
        | some y => rw [hq] at k3; cases k3; simp only [Ent.pl, Prod.mk.injEq] at hp; omega
      · unfold rowG at h
        simp only [List.mem_filterMap, List.mem_range] at h
        obtain ⟨b, k2, k3⟩ := h
        unfold entV at k3
        cases hq : numV x L vol b with
        | none => rw [hq] at k3; cases k3
        | some y => rw [hq] at k3; cases k3; simp only [Ent.pl, Prod.mk.injEq] at hp; omega
    rw [hr, List.find?_append, hn]
    simp [Ent.pl]
theorem allV_place {x : List It} {L : List St} {m n : Nat} {e : Ent} (h : e ∈ allV x L m n) : e.pl ∈ gridP m n := by
  rw [allV_allG] at h
  obtain ⟨v, b, k1, k2, k3⟩ := allG_mem.1 h
  unfold entV at k3
  cases hq : numV x L v b with
  | none => rw [hq] at k3; cases k3
  | some y => rw [hq] at k3; cases k3; exact grid_mem.2 ⟨v, b, k1, k2, rfl⟩
def chgV (x : List It) (L : List St) (y : List It) (K : List St) (vol blk : Nat) : Option Chg :=
  if (numV x L vol blk).getD 0 = (numV y K vol blk).getD 0 then none else some ⟨vol, blk, (numV x L vol blk).getD 0, (numV y K vol blk).getD 0⟩
theorem entries_grid (x : List It) (L : List St) (y : List It) (K : List St) (m n : Nat) : entriesF (allV x L m n) (allV y K m n) = allG (chgV x L y K) m n := by
  unfold entriesF
  rw [fm_sorted (Q := gridP m n) (places_sorted _) (grid_sorted m n) (fun p hp => ?_), grid_fm]
  · refine allG_congr (fun vol blk h1 h2 => ?_)
    unfold chgAt chgV
    rw [allV_shows x L h1 h2, allV_shows y K h1 h2]
  · rw [places_mem]
    constructor
    · rintro ⟨l, hl, e, he, rfl⟩
      simp at hl
      rcases hl with rfl | rfl <;> exact allV_place he
    · intro _
      unfold chgAt at hp
      by_cases h1 : ∃ e ∈ allV x L m n, e.pl = p
      · exact ⟨_, by simp, h1⟩
      · by_cases h2 : ∃ e ∈ allV y K m n, e.pl = p
        · exact ⟨_, by simp, h2⟩
        · rw [shows_zero h1, shows_zero h2] at hp; simp at hp
theorem numV_num {x : List It} (hs : Srt x) : ∀ {L : List St} {vol blk v : Int}, numV x L vol blk = some v → ∃ z ∈ x, z.1.nu = v
  | [], vol, blk, v, h => by cases h
  | s :: r, vol, blk, v, h => by
    unfold numV at h
    cases ht : topN x ⟨s.br, vol, blk, 0⟩ s.up with
    | none => rw [ht] at h; exact numV_num hs h
    | some u =>
      rw [ht] at h
      simp only at h
      by_cases hf : s.fr < u
      · rw [if_pos hf] at h; cases h
        obtain ⟨z, hz, e, _⟩ := top_le hs ht
        exact ⟨z, hz, e⟩
      · rw [if_neg hf] at h; exact numV_num hs h
theorem line0 {F : List Tw} (h : Fo F) (m : Int) : lineF F 0 m = [⟨0, 0, m⟩] := by
  obtain ⟨w, h1, h2, _⟩ := h.root
  unfold lineF
  rw [h1]
  simp [lineGo, h2]
theorem okL0 {F : List Tw} (h : Fo F) {m : Int} (hm : 0 ≤ m) : okL F 0 m = true := by
  obtain ⟨w, h1, h2, _⟩ := h.root
  unfold okL aliveF
  rw [h1]
  simp [h2]; omega
theorem top_late {x : List It} (hs : Srt x) {k m m' : Int} (hk : ∀ z ∈ x, z.1.nu ≤ k) (h1 : k ≤ m) (h2 : k ≤ m') (p : Sp) : topN x p m = topN x p m' :=
  top_ext hs hs (fun w => ⟨fun ⟨⟨z, hz, e⟩, _⟩ => ⟨⟨z, hz, e⟩, by have := hk z hz; rw [e] at this; simp only [atM] at this; omega⟩, fun ⟨⟨z, hz, e⟩, _⟩ => ⟨⟨z, hz, e⟩, by have := hk z hz; rw [e] at this; simp only [atM] at this; omega⟩⟩)
theorem top_before {x : List It} (hs : Srt x) {q : Sp} {v : Int} {k m : Int} (hk : ∀ z ∈ x, z.1.nu ≤ k) (hq : k < q.nu) (hm : m < q.nu) (p : Sp) : topN (refPut x q v) p m = topN x p m :=
  top_ext (srt_put' hs q v) hs (fun w => by
    constructor
    · rintro ⟨⟨z, hz, e⟩, hw⟩
      rcases (put_mem hs).1 hz with rfl | ⟨h1, _⟩
      · simp only at e; rw [e] at hm; simp only [atM] at hm; omega
      · exact ⟨⟨z, h1, e⟩, hw⟩
    · rintro ⟨⟨z, hz, e⟩, hw⟩
      exact ⟨⟨z, (put_mem hs).2 (.inr ⟨hz, fun e2 => by have := hk z hz; rw [e2] at this; omega⟩), e⟩, hw⟩)
theorem top_else {x : List It} (hs : Srt x) {q : Sp} {v : Int} {m : Int} {p : Sp} (hp : ¬ samePl q p) : topN (refPut x q v) p m = topN x p m :=
  top_ext (srt_put' hs q v) hs (fun w => by
    constructor
    · rintro ⟨⟨z, hz, e⟩, hw⟩
      rcases (put_mem hs).1 hz with rfl | ⟨h1, _⟩
      · simp only at e; exact absurd (by rw [e]; exact ⟨rfl, rfl, rfl⟩) hp
      · exact ⟨⟨z, h1, e⟩, hw⟩
    · rintro ⟨⟨z, hz, e⟩, hw⟩
      exact ⟨⟨z, (put_mem hs).2 (.inr ⟨hz, fun e2 => by rw [e2] at e; exact hp (by rw [e]; exact ⟨rfl, rfl, rfl⟩)⟩), e⟩, hw⟩)
theorem num_one {x y : List It} {m m' vol blk : Int} (h : topN x ⟨0, vol, blk, 0⟩ m = topN y ⟨0, vol, blk, 0⟩ m') : numV x [⟨0, 0, m⟩] vol blk = numV y [⟨0, 0, m'⟩] vol blk := by
  unfold numV
  simp only [h]
  rfl
theorem allV_congr {x y : List It} {L K : List St} {m n : Nat} (h : ∀ vol blk : Nat, vol < m → blk < n → numV x L vol blk = numV y K vol blk) : allV x L m n = allV y K m n :=
  allG_congr (fun vol blk h1 h2 => by unfold entV; rw [h vol blk h1 h2])
theorem entries_same {a b : List Ent} (h : a = b) : entriesF a b = [] := by subst h; exact entries_nil (fun _ => rfl)
structure Two (x : List It) (n k : Int) : Prop where
  srt : Srt x
  le : ∀ z ∈ x, 1 ≤ z.1.nu ∧ z.1.nu ≤ k
  new : ∀ z ∈ x, z.1.br = 9 → n < z.1.nu
theorem lineF_len (F : List Tw) (i : Nat) (m : Int) : (lineF F i m).length ≤ 1000 := by
  have := lineGo_len F 16 i
  unfold lineF; simp only [List.length_cons]; omega
end Go.Proofs.Ytpkodkoooaldlaa.A
namespace Go.Proofs.Ytpkodkoooaldlaa.A
open Go Go.RowKit
set_option linter.unusedVariables false
set_option linter.unusedSimpArgs false
set_option maxRecDepth 100000
theorem TW.en19 : entersT Try.prog 19 := enters_of Try.func19 (by kernel_rfl) (by kernel_rfl)
theorem TW.en20 : entersT Try.prog 20 := enters_of Try.func20 (by kernel_rfl) (by kernel_rfl)
theorem TW.sl22 : sliceT Try.prog 22 = some 45 := by kernel_rfl
theorem TW.sz45 : szT Try.prog 45 = some 5 := by kernel_rfl
theorem TW.agg45 : aggT Try.prog 45 = some true := by kernel_rfl
theorem TW.zero45 : ZeroT Try.prog 45 [.v (.bool false), .v (.int .u8 0), .v (.int .u8 0), .v (.int .u8 0), .v (.int .u8 0)] := ⟨[(.bool false), (.int .u8 0), (.int .u8 0), (.int .u8 0), (.int .u8 0)], by kernel_rfl, (LeCells.refl _)⟩
theorem TW.un3 : Try.prog.underlying 3 = some (.int .i64) := by kernel_rfl
theorem TW.un31 : Try.prog.underlying 31 = some (.int .u64) := by kernel_rfl
theorem TW.f45_0 : fieldT Try.prog 45 0 = some (0, 4) := by kernel_rfl
theorem TW.sz4 : szT Try.prog 4 = some 1 := by kernel_rfl
theorem TW.agg4 : aggT Try.prog 4 = some false := by kernel_rfl
theorem TW.mixed : Try.prog.follows .mixedOrders = true := by kernel_rfl
theorem TW.f45_1 : fieldT Try.prog 45 1 = some (1, 5) := by kernel_rfl
theorem TW.sz5 : szT Try.prog 5 = some 1 := by kernel_rfl
theorem TW.agg5 : aggT Try.prog 5 = some false := by kernel_rfl
theorem TW.un5 : Try.prog.underlying 5 = some (.int .u8) := by kernel_rfl
theorem TW.f45_2 : fieldT Try.prog 45 2 = some (2, 5) := by kernel_rfl
theorem TW.f45_4 : fieldT Try.prog 45 4 = some (4, 5) := by kernel_rfl
theorem TW.en13 : entersT Try.prog 13 := enters_of Try.func13 (by kernel_rfl) (by kernel_rfl)
theorem TW.f45_3 : fieldT Try.prog 45 3 = some (3, 5) := by kernel_rfl
theorem TW.pl47 : placesT Try.prog 47 = some [(0, 1), (1, 1), (2, 1)] := by kernel_rfl
theorem TW.zero47 : ZeroT Try.prog 47 [.v (.int .i64 0), .v (.int .i64 0), .v (.int .i64 0)] := ⟨[(.int .i64 0), (.int .i64 0), (.int .i64 0)], by kernel_rfl, (LeCells.refl _)⟩
theorem TW.en12 : entersT Try.prog 12 := enters_of Try.func12 (by kernel_rfl) (by kernel_rfl)
set_option maxHeartbeats 1000000 in
theorem laid_ok (l : List FA) (hok : ∀ a ∈ l, a.ok) (hl : l.length ≤ 60) : AC Try.prog 8 [.sl 5 (l.map FA.cs)] [] (fun r n => ∃ g gf t x F, r = .tup [.v (.pointer (some ⟨g, 0, none⟩)), .v (.pointer (some ⟨gf, 0, none⟩))] ∧ n = [⟨gf, true, .box (twsA F)⟩, ⟨g, true, .box [encT t]⟩] ∧ Lay t x F l.length) := by
 refine ac_of_awp (rs := [2, 3]) (nt := 59) Try.func8 rfl rfl rfl rfl (fun w0 C0 hq => ?_)
 refine awp_seq ?_
 refine awp_region ?_
 refine r_assign rfl rfl ?_
 refine r_assign rfl rfl ?_
 refine awl_nil ?_
 refine x_then ?_
 refine awp_seq ?_
 refine awp_region ?_
 refine r_callO hq rfl rfl .nil (ixNew_ok) rfl TW.en19 (List.nil_sublist _) rfl (fun r nobjs hr => ?_)
 obtain ⟨g, rfl, rfl⟩ := hr
 refine r_callO hq rfl rfl .nil (foNew_ok) rfl TW.en20 (List.nil_sublist _) rfl (fun r nobjs hr => ?_)
 obtain ⟨gf, rfl, rfl⟩ := hr
 refine r_assign rfl rfl ?_
 refine r_assign rfl rfl ?_
 refine awl_nil ?_
 refine x_then ?_
 refine awp_seq ?_
 refine awp_seq ?_
 refine awp_region ?_
 refine r_move rfl rfl ?_
 first | (refine r_lenS rfl rfl TW.sl22 rfl ?_) | (refine r_lenNil rfl TW.sl22 rfl ?_) | (refine r_lenV rfl TW.sl22 rfl ?_)
 refine r_move rfl rfl ?_
 refine awl_nil ?_
 refine x_then ?_
 refine awp_block ?_
 refine awp_loop (fun nn0 S => ∃ j : Nat, ∃ tc : TreeV, ∃ xc : List It, ∃ Fc : List Tw, S = ⟨59, [(4, .a (.v (.pointer (some ⟨g, 0, none⟩)))), (5, .a (.v (.pointer (some ⟨gf, 0, none⟩)))), (11, .a (.sl 5 (l.map FA.cs))), (12, .a (.v (.int .i64 (((l.map FA.cs).length : Nat))))), (13, .a (.v (.int .i64 ((j : Int)))))], [⟨gf, true, .box (twsA Fc)⟩, ⟨g, true, .box [encT tc]⟩]⟩ ∧ nn0 = l.length - j ∧ (j ≤ l.length) ∧ (Lay tc xc Fc j)) (l.length - (0)) ⟨59, [(4, .a (.v (.pointer (some ⟨g, 0, none⟩)))), (5, .a (.v (.pointer (some ⟨gf, 0, none⟩)))), (11, .a (.sl 5 (l.map FA.cs))), (12, .a (.v (.int .i64 (((l.map FA.cs).length : Nat))))), (13, .a (.v (.int .i64 (((0) : Int)))))], [⟨gf, true, .box (twsA (newF))⟩, ⟨g, true, .box [encT ((some (none, 0)))]⟩]⟩ ⟨rfl, (Slots.cons rfl (by first | exact .refl _ | exact .nilOwn _ _ | exact .nilSl _ | exact .ownSl _ _ _  | exact SV.le.of_eq (by simp)) (Slots.cons rfl (by first | exact .refl _ | exact .nilOwn _ _ | exact .nilSl _ | exact .ownSl _ _ _  | exact SV.le.of_eq (by simp)) (Slots.cons rfl (by first | exact .refl _ | exact .nilOwn _ _ | exact .nilSl _ | exact .ownSl _ _ _  | exact SV.le.of_eq (by simp)) (Slots.cons rfl (by first | exact .refl _ | exact .nilOwn _ _ | exact .nilSl _ | exact .ownSl _ _ _  | exact SV.le.of_eq (by simp)) (Slots.cons rfl (by first | exact .refl _ | exact .nilOwn _ _ | exact .nilSl _ | exact .ownSl _ _ _  | exact SV.le.of_eq (by simp)) Slots.nil))))), (by first | exact List.Sublist.refl _ | exact .cons_cons _ (.cons _ (.refl _)) | exact List.nil_sublist _ | exact .cons _ (.refl _) | exact .cons _ (.cons _ (.refl _)) | exact .cons _ (.cons _ (.cons _ (.refl _))) | exact .cons _ (.cons _ (.cons _ (.cons _ (.refl _)))) | exact .cons_cons _ (List.nil_sublist _))⟩ ⟨0, (some (none, 0)), [], newF, rfl, rfl, Nat.zero_le _, lay_new⟩ ?_
 rintro nn0 _ ⟨j, tc, xc, Fc, rfl, rfl, hj, hL⟩
 refine awp_seq ?_
 refine awp_region ?_
 refine r_cmp rfl rfl rfl rfl ?_
 refine awl_nil ?_
 refine x_then ?_
 refine awp_seq ?_
 refine awp_cond rfl (fun hc0 => ?_) (fun hc0 => ?_)
 ·
  have hltac : j < l.length := by have := of_decide_eq_true hc0; simpa using this
  obtain ⟨ac, hac⟩ := get_lt hltac
  obtain ⟨ob, ov, ok_, on⟩ := hok ac (List.mem_of_getElem? hac)
  refine awp_skip ?_
  refine x_then ?_
  refine awp_seq ?_
  refine awp_block ?_
  refine awp_seq ?_
  refine awp_region ?_
  refine r_move rfl rfl ?_
  refine r_index rfl rfl rfl TW.sl22 TW.sz45 (by omega) (get_map hac) rfl ?_
  first | (refine r_loadAb 0 rfl rfl TW.agg45 TW.sz45 rfl rfl ?_) | (refine r_loadA rfl TW.agg45 TW.sz45 rfl rfl ?_) | (refine r_loadAb 1 rfl rfl TW.agg45 TW.sz45 rfl rfl ?_)
  refine r_alloc TW.zero45 rfl (fun b7 => ?_)
  refine r_assign rfl rfl ?_
  first | (refine r_store 0 rfl rfl rfl TW.sz45 rfl rfl rfl ?_) | (refine r_store 1 rfl rfl rfl TW.sz45 rfl rfl rfl ?_) | (refine r_store 2 rfl rfl rfl TW.sz45 rfl rfl rfl ?_)
  refine awl_nil ?_
  refine x_then ?_
  refine awp_seq ?_
  refine awp_region ?_
  refine r_move rfl rfl ?_
  refine r_ari ((j + 1 : Nat) : Int) rfl rfl rfl (wrap_id (by omega)) rfl ?_
  refine r_conv ((j + 1 : Nat) : Int) rfl TW.un3 TW.un31 (wrap_u64 (by omega)) rfl ?_
  refine r_assign rfl rfl ?_
  refine awl_nil ?_
  refine x_then ?_
  refine awp_seq ?_
  refine awp_region ?_
  first | (refine r_fieldpt rfl TW.f45_0 TW.sz4 rfl ?_) | (refine r_fieldcp rfl TW.f45_0 TW.sz4 rfl ?_) | (refine r_fieldb rfl TW.f45_0 TW.sz4 rfl ?_)
  first | (refine r_load1b 0 rfl rfl rfl TW.agg4 rfl ?_) | (refine r_load1 rfl TW.agg4 rfl ?_) | (refine r_load1b 1 rfl rfl rfl TW.agg4 rfl ?_) | (refine r_load1b 2 rfl rfl rfl TW.agg4 rfl ?_)
  refine awl_nil ?_
  refine x_then ?_
  refine awp_cond rfl (fun hc1 => ?_) (fun hc1 => ?_)
  ·
   refine awp_drawS [23, 24, 25, 26, 27, 28, 29, 30, 31, 32, 33, 34, 35, 36, 37, 38] [_, _, _, _, _, _, _, _, _, _, _, _, _, _, _, _] [] [] TW.mixed rfl rfl rfl ⟨⟨⟨⟨⟨⟨⟨⟨⟨⟨⟨⟨⟨⟨⟨⟨trivial
    , ⟨_, rfl, fun sl hd hr ho => by
      refine r_move (hr 5 _ rfl rfl rfl) rfl ?_
      exact awl_nil ⟨rfl, post_put⟩⟩⟩
    , ⟨_, rfl, fun sl hd hr ho => by
      first | (refine r_fieldpt (hr 7 _ rfl rfl rfl) TW.f45_1 TW.sz5 rfl ?_) | (refine r_fieldcp (hr 7 _ rfl rfl rfl) TW.f45_1 TW.sz5 rfl ?_) | (refine r_fieldb (hr 7 _ rfl rfl rfl) TW.f45_1 TW.sz5 rfl ?_)
      exact awl_nil ⟨rfl, post_put⟩⟩⟩
    , ⟨_, rfl, fun sl hd hr ho => by
      first | (refine r_load1b 0 (hd 1 _ rfl rfl rfl) rfl rfl TW.agg5 rfl ?_) | (refine r_load1 (hd 1 _ rfl rfl rfl) TW.agg5 rfl ?_) | (refine r_load1b 1 (hd 1 _ rfl rfl rfl) rfl rfl TW.agg5 rfl ?_) | (refine r_load1b 2 (hd 1 _ rfl rfl rfl) rfl rfl TW.agg5 rfl ?_)
      exact awl_nil ⟨rfl, post_put⟩⟩⟩
    , ⟨_, rfl, fun sl hd hr ho => by
      refine r_conv ((ac.b : Nat) : Int) (hd 2 _ rfl rfl rfl) TW.un5 TW.un3 (wrap_id (by omega)) rfl ?_
      exact awl_nil ⟨rfl, post_put⟩⟩⟩
    , ⟨_, rfl, fun sl hd hr ho => by
      refine r_div ((ac.b % 2 : Nat) : Int) (hd 3 _ rfl rfl rfl) rfl (rem_some (by omega)) (by rw [Int.tmod_eq_emod_of_nonneg (by omega)]; omega) rfl ?_
      exact awl_nil ⟨rfl, post_put⟩⟩⟩
    , ⟨_, rfl, fun sl hd hr ho => by
      refine r_ari ((1 + ac.b % 2 : Nat) : Int) rfl (hd 4 _ rfl rfl rfl) rfl (by rw [wrap_id (by omega)]; omega) rfl ?_
      exact awl_nil ⟨rfl, post_put⟩⟩⟩
    , ⟨_, rfl, fun sl hd hr ho => by
      first | (refine r_fieldpt (hr 7 _ rfl rfl rfl) TW.f45_2 TW.sz5 rfl ?_) | (refine r_fieldcp (hr 7 _ rfl rfl rfl) TW.f45_2 TW.sz5 rfl ?_) | (refine r_fieldb (hr 7 _ rfl rfl rfl) TW.f45_2 TW.sz5 rfl ?_)
      exact awl_nil ⟨rfl, post_put⟩⟩⟩
    , ⟨_, rfl, fun sl hd hr ho => by
      first | (refine r_load1b 0 (hd 6 _ rfl rfl rfl) rfl rfl TW.agg5 rfl ?_) | (refine r_load1 (hd 6 _ rfl rfl rfl) TW.agg5 rfl ?_) | (refine r_load1b 1 (hd 6 _ rfl rfl rfl) rfl rfl TW.agg5 rfl ?_) | (refine r_load1b 2 (hd 6 _ rfl rfl rfl) rfl rfl TW.agg5 rfl ?_)
      exact awl_nil ⟨rfl, post_put⟩⟩⟩
    , ⟨_, rfl, fun sl hd hr ho => by
      refine r_conv ((ac.v : Nat) : Int) (hd 7 _ rfl rfl rfl) TW.un5 TW.un3 (wrap_id (by omega)) rfl ?_
      exact awl_nil ⟨rfl, post_put⟩⟩⟩
    , ⟨_, rfl, fun sl hd hr ho => by
      refine r_div ((ac.v % 2 : Nat) : Int) (hd 8 _ rfl rfl rfl) rfl (rem_some (by omega)) (by rw [Int.tmod_eq_emod_of_nonneg (by omega)]; omega) rfl ?_
      exact awl_nil ⟨rfl, post_put⟩⟩⟩
    , ⟨_, rfl, fun sl hd hr ho => by
      first | (refine r_fieldpt (hr 7 _ rfl rfl rfl) TW.f45_4 TW.sz5 rfl ?_) | (refine r_fieldcp (hr 7 _ rfl rfl rfl) TW.f45_4 TW.sz5 rfl ?_) | (refine r_fieldb (hr 7 _ rfl rfl rfl) TW.f45_4 TW.sz5 rfl ?_)
      exact awl_nil ⟨rfl, post_put⟩⟩⟩
    , ⟨_, rfl, fun sl hd hr ho => by
      first | (refine r_load1b 0 (hd 10 _ rfl rfl rfl) rfl rfl TW.agg5 rfl ?_) | (refine r_load1 (hd 10 _ rfl rfl rfl) TW.agg5 rfl ?_) | (refine r_load1b 1 (hd 10 _ rfl rfl rfl) rfl rfl TW.agg5 rfl ?_) | (refine r_load1b 2 (hd 10 _ rfl rfl rfl) rfl rfl TW.agg5 rfl ?_)
      exact awl_nil ⟨rfl, post_put⟩⟩⟩
    , ⟨_, rfl, fun sl hd hr ho => by
      refine r_conv ((ac.n : Nat) : Int) (hd 11 _ rfl rfl rfl) TW.un5 TW.un31 (wrap_u64 (by omega)) rfl ?_
      exact awl_nil ⟨rfl, post_put⟩⟩⟩
    , ⟨_, rfl, fun sl hd hr ho => by
      refine r_move (hr 8 _ rfl rfl rfl) rfl ?_
      exact awl_nil ⟨rfl, post_put⟩⟩⟩
    , ⟨_, rfl, fun sl hd hr ho => by
      refine r_div ((ac.n % (j + 1) : Nat) : Int) (hd 12 _ rfl rfl rfl) (hd 13 _ rfl rfl rfl) (rem_some (by omega)) (by rw [Int.tmod_eq_emod_of_nonneg (by omega)]; rfl) rfl ?_
      exact awl_nil ⟨rfl, post_put⟩⟩⟩
    , ⟨_, rfl, fun sl hd hr ho => by
      refine r_move (hr 8 _ rfl rfl rfl) rfl ?_
      exact awl_nil ⟨rfl, post_put⟩⟩⟩
    (by rfl) ?_
   refine r_callW hq [false, true, false] rfl rfl (.cons (.ev rfl rfl) (.cons (.ev rfl rfl) (.cons (.ev rfl rfl) (.cons (.ev rfl rfl) (.cons (.ev rfl rfl) .nil))))) (fork_ok Fc hL.fo (1 + ac.b % 2) (ac.v % 2) (by omega) (by omega) (by omega) _ _ gf) rfl TW.en13 rfl rfl (List.nil_sublist _) rfl (fun r nobjs hr => ?_)
   obtain ⟨rfl, rfl⟩ := hr
   refine awl_nil ?_
   refine x_block ?_
   refine x_then ?_
   refine awp_region ?_
   refine r_ari _ rfl rfl rfl (wrap_id (by first | omega | (simp; omega))) rfl ?_
   refine r_move rfl rfl ?_
   refine awl_nil ?_
   refine x_then ?_
   refine ⟨l.length - (j + 1), ⟨59, [(4, .a (.v (.pointer (some ⟨g, 0, none⟩)))), (5, .a (.v (.pointer (some ⟨gf, 0, none⟩)))), (11, .a (.sl 5 (l.map FA.cs))), (12, .a (.v (.int .i64 (((l.map FA.cs).length : Nat))))), (13, .a (.v (.int .i64 (((j + 1) : Int)))))], [⟨gf, true, .box (twsA ((forkF Fc (1 + ac.b % 2) (ac.v % 2) ((ac.n % (j + 1) : Nat) : Int) ((j + 1 : Nat) : Int)).2))⟩, ⟨g, true, .box [encT (tc)]⟩]⟩, ⟨rfl, (Slots.cons rfl (by first | exact .refl _ | exact .nilOwn _ _ | exact .nilSl _ | exact .ownSl _ _ _  | exact SV.le.of_eq (by simp)) (Slots.cons rfl (by first | exact .refl _ | exact .nilOwn _ _ | exact .nilSl _ | exact .ownSl _ _ _  | exact SV.le.of_eq (by simp)) (Slots.cons rfl (by first | exact .refl _ | exact .nilOwn _ _ | exact .nilSl _ | exact .ownSl _ _ _  | exact SV.le.of_eq (by simp)) (Slots.cons rfl (by first | exact .refl _ | exact .nilOwn _ _ | exact .nilSl _ | exact .ownSl _ _ _  | exact SV.le.of_eq (by simp)) (Slots.cons rfl (by first | exact .refl _ | exact .nilOwn _ _ | exact .nilSl _ | exact .ownSl _ _ _  | exact SV.le.of_eq (by simp)) Slots.nil))))), (.cons_cons _ (.cons _ (List.Sublist.refl _)))⟩, (by omega), ⟨j + 1, tc, xc, (forkF Fc (1 + ac.b % 2) (ac.v % 2) ((ac.n % (j + 1) : Nat) : Int) ((j + 1 : Nat) : Int)).2, rfl, rfl, (by omega), (hL.fork (by omega) (by omega) (by omega) _ _)⟩⟩
  ·
   refine awp_region ?_
   refine r_move rfl rfl ?_
   first | (refine r_fieldpt rfl TW.f45_1 TW.sz5 rfl ?_) | (refine r_fieldcp rfl TW.f45_1 TW.sz5 rfl ?_) | (refine r_fieldb rfl TW.f45_1 TW.sz5 rfl ?_)
   first | (refine r_load1b 0 rfl rfl rfl TW.agg5 rfl ?_) | (refine r_load1 rfl TW.agg5 rfl ?_) | (refine r_load1b 1 rfl rfl rfl TW.agg5 rfl ?_) | (refine r_load1b 2 rfl rfl rfl TW.agg5 rfl ?_)
   refine r_conv ((ac.b : Nat) : Int) rfl TW.un5 TW.un3 (wrap_id (by omega)) rfl ?_
   refine r_div ((ac.b % 3 : Nat) : Int) rfl rfl (rem_some (by omega)) (by rw [Int.tmod_eq_emod_of_nonneg (by omega)]; omega) rfl ?_
   first | (refine r_fieldpt rfl TW.f45_2 TW.sz5 rfl ?_) | (refine r_fieldcp rfl TW.f45_2 TW.sz5 rfl ?_) | (refine r_fieldb rfl TW.f45_2 TW.sz5 rfl ?_)
   first | (refine r_load1b 0 rfl rfl rfl TW.agg5 rfl ?_) | (refine r_load1 rfl TW.agg5 rfl ?_) | (refine r_load1b 1 rfl rfl rfl TW.agg5 rfl ?_) | (refine r_load1b 2 rfl rfl rfl TW.agg5 rfl ?_)
   refine r_conv ((ac.v : Nat) : Int) rfl TW.un5 TW.un3 (wrap_id (by omega)) rfl ?_
   refine r_div ((ac.v % 2 : Nat) : Int) rfl rfl (rem_some (by omega)) (by rw [Int.tmod_eq_emod_of_nonneg (by omega)]; omega) rfl ?_
   first | (refine r_fieldpt rfl TW.f45_3 TW.sz5 rfl ?_) | (refine r_fieldcp rfl TW.f45_3 TW.sz5 rfl ?_) | (refine r_fieldb rfl TW.f45_3 TW.sz5 rfl ?_)
   first | (refine r_load1b 0 rfl rfl rfl TW.agg5 rfl ?_) | (refine r_load1 rfl TW.agg5 rfl ?_) | (refine r_load1b 1 rfl rfl rfl TW.agg5 rfl ?_) | (refine r_load1b 2 rfl rfl rfl TW.agg5 rfl ?_)
   refine r_conv ((ac.k : Nat) : Int) rfl TW.un5 TW.un3 (wrap_id (by omega)) rfl ?_
   refine r_div ((ac.k % 5 : Nat) : Int) rfl rfl (rem_some (by omega)) (by rw [Int.tmod_eq_emod_of_nonneg (by omega)]; omega) rfl ?_
   refine r_build (parts := [(0, .tmp 44), (1, .tmp 48), (2, .tmp 52)]) rfl TW.pl47 TW.zero47 rfl rfl rfl ?_
   refine r_move rfl rfl ?_
   refine r_callW hq [false, false, true] rfl rfl (.cons (.ev rfl rfl) (.cons (.ev rfl rfl) (.cons (.ev rfl rfl) .nil))) (ixPut_ok tc xc hL.idx (by have := hL.len; omega) (⟨((ac.b % 3 : Nat) : Int), ((ac.v % 2 : Nat) : Int), ((ac.k % 5 : Nat) : Int), ((j + 1 : Nat) : Int)⟩ : Sp) (⟨⟨by simp only; omega, by simp only; omega⟩, ⟨by simp only; omega, by simp only; omega⟩, ⟨by simp only; omega, by simp only; omega⟩, ⟨by simp only; omega, by simp only; omega⟩⟩) (hL.free _ (by simp only; omega)) g) rfl TW.en12 rfl rfl (List.nil_sublist _) rfl (fun r nobjs hr => ?_)
   obtain ⟨rfl, t', rfl, hI'⟩ := hr
   have hL' := hL.put (by simp only; omega) (by simp only; omega) hI'
   refine awl_imp (imp_perm (objs := [⟨gf, true, .box (twsA Fc)⟩, ⟨g, true, .box [encT t']⟩, ⟨b7, true, .box ac.cs⟩]) (List.perm_append_comm (l₁ := [_]) (l₂ := [_, _]))) ?_
   refine awl_nil ?_
   refine x_block ?_
   refine x_then ?_
   refine awp_region ?_
   refine r_ari _ rfl rfl rfl (wrap_id (by first | omega | (simp; omega))) rfl ?_
   refine r_move rfl rfl ?_
   refine awl_nil ?_
   refine x_then ?_
   refine ⟨l.length - (j + 1), ⟨59, [(4, .a (.v (.pointer (some ⟨g, 0, none⟩)))), (5, .a (.v (.pointer (some ⟨gf, 0, none⟩)))), (11, .a (.sl 5 (l.map FA.cs))), (12, .a (.v (.int .i64 (((l.map FA.cs).length : Nat))))), (13, .a (.v (.int .i64 (((j + 1) : Int)))))], [⟨gf, true, .box (twsA (Fc))⟩, ⟨g, true, .box [encT (t')]⟩]⟩, ⟨rfl, (Slots.cons rfl (by first | exact .refl _ | exact .nilOwn _ _ | exact .nilSl _ | exact .ownSl _ _ _  | exact SV.le.of_eq (by simp)) (Slots.cons rfl (by first | exact .refl _ | exact .nilOwn _ _ | exact .nilSl _ | exact .ownSl _ _ _  | exact SV.le.of_eq (by simp)) (Slots.cons rfl (by first | exact .refl _ | exact .nilOwn _ _ | exact .nilSl _ | exact .ownSl _ _ _  | exact SV.le.of_eq (by simp)) (Slots.cons rfl (by first | exact .refl _ | exact .nilOwn _ _ | exact .nilSl _ | exact .ownSl _ _ _  | exact SV.le.of_eq (by simp)) (Slots.cons rfl (by first | exact .refl _ | exact .nilOwn _ _ | exact .nilSl _ | exact .ownSl _ _ _  | exact SV.le.of_eq (by simp)) Slots.nil))))), (.cons_cons _ (.cons_cons _ (List.nil_sublist _)))⟩, (by omega), ⟨j + 1, t', (refPut xc (⟨((ac.b % 3 : Nat) : Int), ((ac.v % 2 : Nat) : Int), ((ac.k % 5 : Nat) : Int), ((j + 1 : Nat) : Int)⟩ : Sp) ((j + 1 : Nat) : Int)), Fc, rfl, rfl, (by omega), hL'⟩⟩
 ·
  have hge : l.length ≤ j := by have := of_decide_eq_false hc0; simp at this; omega
  obtain rfl : j = l.length := by omega
  refine awp_exit ?_
  refine x_thenE ?_
  refine x_thenE ?_
  refine x_blockE ?_
  refine x_then ?_
  refine awp_seq ?_
  refine awp_region ?_
  refine r_move rfl rfl ?_
  refine r_move rfl rfl ?_
  refine r_assign rfl rfl ?_
  refine r_assign rfl rfl ?_
  refine awl_nil ?_
  refine x_then ?_
  refine awp_ret ?_
  exact ⟨(.inl rfl), _, [⟨gf, true, .box (twsA Fc)⟩, ⟨g, true, .box [encT tc]⟩], (.two (by first | exact .mk rfl rfl | exact .nil rfl) (by first | exact .mk rfl rfl | exact .nil rfl)), ⟨g, gf, tc, xc, Fc, rfl, rfl, hL⟩, (List.Sublist.refl _), (by simp)⟩
end Go.Proofs.Ytpkodkoooaldlaa.A
namespace Go.Proofs.Ytpkodkoooaldlaa.A
open Go Go.RowKit
set_option linter.unusedVariables false
set_option linter.unusedSimpArgs false
set_option maxRecDepth 100000
theorem TW.en7 : entersT Try.prog 7 := enters_of Try.func7 (by kernel_rfl) (by kernel_rfl)
theorem TW.en8 : entersT Try.prog 8 := enters_of Try.func8 (by kernel_rfl) (by kernel_rfl)
theorem TW.en9 : entersT Try.prog 9 := enters_of Try.func9 (by kernel_rfl) (by kernel_rfl)
theorem TW.zero33 : ZeroT Try.prog 33 [.v (.pointer none), .sl 3 [], .v (.int .u64 0)] := ⟨[(.pointer none), (.slice none 0 0), (.int .u64 0)], by kernel_rfl, (.cons (.refl _) (.cons (.nil 3) (.cons (.refl _) .nil)))⟩
theorem TW.sz33 : szT Try.prog 33 = some 3 := by kernel_rfl
theorem TW.agg33 : aggT Try.prog 33 = some true := by kernel_rfl
theorem TW.en10 : entersT Try.prog 10 := enters_of Try.func10 (by kernel_rfl) (by kernel_rfl)
theorem TW.en11 : entersT Try.prog 11 := enters_of Try.func11 (by kernel_rfl) (by kernel_rfl)
theorem TW.sl37 : sliceT Try.prog 37 = some 42 := by kernel_rfl
theorem TW.sz42 : szT Try.prog 42 = some 4 := by kernel_rfl
theorem TW.agg42 : aggT Try.prog 42 = some true := by kernel_rfl
theorem TW.pl42 : placesT Try.prog 42 = some [(0, 1), (1, 1), (2, 1), (3, 1)] := by kernel_rfl
theorem TW.zero42 : ZeroT Try.prog 42 [.v (.int .i64 0), .v (.int .i64 0), .v (.int .u64 0), .v (.int .u64 0)] := ⟨[(.int .i64 0), (.int .i64 0), (.int .u64 0), (.int .u64 0)], by kernel_rfl, (LeCells.refl _)⟩
theorem TW.mix42 : MixT Try.prog 42 [.i64, .i64, .u64, .u64] := ⟨by kernel_rfl, by kernel_rfl, by kernel_rfl, by kernel_rfl⟩
theorem viewNew_ok' (q : Rt × Int) (F : List Tw) (hF : Fo F) (i : Nat) (hi : i < 16) (m : Int) (g gf : Nat) (f f2 : Bool) : AC Try.prog 9 [.v (.pointer (some ⟨g, 0, none⟩)), .v (.pointer (some ⟨gf, 0, none⟩)), .v (.int .i64 (i : Int)), .v (.int .u64 (m))] [⟨gf, f2, .box (twsA F)⟩, ⟨g, f, .box [encT (some q)]⟩] (fun r n => n = [] ∧ ((okL F i m = true ∧ r = .tup [viewA (some q) (lineF F i m) m, .v (.int .i64 0)]) ∨ (okL F i m = false ∧ r = .tup [viewA none [] 0, .v (.int .i64 4)]))) := by
  intro C w vals h1 h2 h3
  have hp : ([⟨g, f, .box [encT (some q)]⟩, ⟨gf, f2, .box (twsA F)⟩] : List OE).Perm [⟨gf, f2, .box (twsA F)⟩, ⟨g, f, .box [encT (some q)]⟩] := List.Perm.swap _ _ _
  exact viewNew_ok q F hF i hi m g gf f f2 C w vals h1 h2 ⟨fun e he => h3.1 e (hp.mem_iff.1 he), (hp.pairwise_iff (fun h => fun e => h e.symm)).2 h3.2⟩
end Go.Proofs.Ytpkodkoooaldlaa.A
namespace Go.Proofs.Ytpkodkoooaldlaa.A
open Go Go.RowKit
set_option linter.unusedVariables false
set_option linter.unusedSimpArgs false
set_option maxRecDepth 100000
theorem TR.f45_0 : fieldT Try.prog 45 0 = some (0, 4) := by kernel_rfl
theorem TR.f45_1 : fieldT Try.prog 45 1 = some (1, 5) := by kernel_rfl
theorem TR.f45_2 : fieldT Try.prog 45 2 = some (2, 5) := by kernel_rfl
theorem TR.f45_3 : fieldT Try.prog 45 3 = some (3, 5) := by kernel_rfl
theorem TR.f45_4 : fieldT Try.prog 45 4 = some (4, 5) := by kernel_rfl
theorem TR.sz45 : szT Try.prog 45 = some 5 := by kernel_rfl
theorem TR.sz4 : szT Try.prog 4 = some 1 := by kernel_rfl
theorem TR.sz5 : szT Try.prog 5 = some 1 := by kernel_rfl
theorem TR.un4 : Try.prog.underlying 4 = some .bool := by kernel_rfl
theorem TR.un5 : Try.prog.underlying 5 = some (.int .u8) := by kernel_rfl
theorem TR.sl22 : sliceT Try.prog 22 = some 45 := by kernel_rfl
theorem u8_nat {n : Int} (h : IntKind.u8.min ≤ n ∧ n ≤ IntKind.u8.max) : ((n.toNat : Nat) : Int) = n ∧ n.toNat < 256 := by
  have e1 : IntKind.u8.min = 0 := by decide
  have e2 : IntKind.u8.max = 255 := by decide
  rw [e1, e2] at h
  omega
theorem rd_n8 {t : TypeId} (ht : Try.prog.underlying t = some (.int .u8)) : RD Try.prog t (fun n : Nat => [.v (.int .u8 (n : Int))]) (fun n => n < 256) :=
  RD.map (rd_int ht) Int.toNat (fun n h => ⟨(u8_nat h).2, by rw [(u8_nat h).1]⟩)
theorem rd_fa : RD Try.prog 45 FA.cs FA.ok := RD.map (rd_struct5 TR.f45_0 TR.f45_1 TR.f45_2 TR.f45_3 TR.f45_4 TR.sz45 TR.sz4 TR.sz5 TR.sz5 TR.sz5 TR.sz5 (rd_bool TR.un4) (rd_n8 TR.un5) (rd_n8 TR.un5) (rd_n8 TR.un5) (rd_n8 TR.un5)) (fun a => (⟨a.1, a.2.1, a.2.2.1, a.2.2.2.1, a.2.2.2.2⟩ : FA)) (fun a g => ⟨⟨g.2.1, g.2.2.1, g.2.2.2.1, g.2.2.2.2⟩, rfl⟩)
theorem rd_fas : RD Try.prog 22 (fun l : List FA => [AV.sl 5 (l.map FA.cs)]) (fun l => ∀ a ∈ l, a.ok) := RD.map (rd_slice TR.sl22 TR.sz45 rd_fa (fun _ => rfl)) id (fun a g => ⟨g, rfl⟩)
theorem RD.argS {P : Program} {t : TypeId} {α : Type} {E : α → List AV} {G : α → Prop} (h : RD P t E G) {H : Type} {enc : TypeId × Value → H} {W : World} {arr : Array Value} {d : DataW H} {p : List MemPlace} (hv : DataW.Trod enc P W 0 (fun _ => true) true t (.agg arr) d p) :
    ∃ a, G a ∧ Rel (C0 W) (.agg (E a)) (.agg arr) := by
  obtain ⟨fuel, hf⟩ := hv
  obtain ⟨a, h1, h2, h3⟩ := h enc W fuel _ _ hf
  exact ⟨a, h1, rel_agg.2 h2⟩
theorem u8_wf {x : Int} (h : (Lit.int .u8 x).wf = true) : ∃ n : Nat, x = (n : Int) ∧ n < 256 := by
  simp only [Lit.wf, Bool.and_eq_true, decide_eq_true_eq] at h
  have h1 : 0 ≤ x := h.1
  have h2 : x ≤ 255 := h.2
  exact ⟨x.toNat, by omega, by omega⟩
end Go.Proofs.Ytpkodkoooaldlaa.A
namespace Go.Proofs.Ytpkodkoooaldlaa.A
open Go Go.RowKit
set_option linter.unusedVariables false
set_option linter.unusedSimpArgs false
set_option maxRecDepth 100000
theorem TW.sz47 : szT Try.prog 47 = some 3 := by kernel_rfl
theorem TW.agg47 : aggT Try.prog 47 = some true := by kernel_rfl
theorem TW.f42_0 : fieldT Try.prog 42 0 = some (0, 3) := by kernel_rfl
theorem TW.sz3 : szT Try.prog 3 = some 1 := by kernel_rfl
theorem TW.agg3 : aggT Try.prog 3 = some false := by kernel_rfl
theorem TW.f47_1 : fieldT Try.prog 47 1 = some (1, 3) := by kernel_rfl
theorem TW.f42_1 : fieldT Try.prog 42 1 = some (1, 3) := by kernel_rfl
theorem TW.f47_2 : fieldT Try.prog 47 2 = some (2, 3) := by kernel_rfl
theorem TW.f42_3 : fieldT Try.prog 42 3 = some (3, 31) := by kernel_rfl
theorem TW.sz31 : szT Try.prog 31 = some 1 := by kernel_rfl
theorem TW.agg31 : aggT Try.prog 31 = some false := by kernel_rfl
theorem view0a (q : Rt × Int) (F : List Tw) (hF : Fo F) (m : Int) (hm : 0 ≤ m) (g gf : Nat) (f f2 : Bool) : AC Try.prog 9 [.v (.pointer (some ⟨g, 0, none⟩)), .v (.pointer (some ⟨gf, 0, none⟩)), .v (.int .i64 0), .v (.int .u64 (m))] [⟨g, f, .box [encT (some q)]⟩, ⟨gf, f2, .box (twsA F)⟩] (fun r n => n = [] ∧ r = .tup [viewA (some q) [⟨0, 0, m⟩] m, .v (.int .i64 0)]) :=
  (viewNew_ok q F hF 0 (by omega) m g gf f f2).mono (fun r n ⟨h1, h2⟩ => ⟨h1, by
    rcases h2 with ⟨_, h⟩ | ⟨h, _⟩
    · rw [h, line0 hF]
    · exact absurd h (by rw [okL0 hF hm]; decide)⟩)
theorem view0b (q : Rt × Int) (F : List Tw) (hF : Fo F) (m : Int) (hm : 0 ≤ m) (g gf : Nat) (f f2 : Bool) : AC Try.prog 9 [.v (.pointer (some ⟨g, 0, none⟩)), .v (.pointer (some ⟨gf, 0, none⟩)), .v (.int .i64 0), .v (.int .u64 (m))] [⟨gf, f2, .box (twsA F)⟩, ⟨g, f, .box [encT (some q)]⟩] (fun r n => n = [] ∧ r = .tup [viewA (some q) [⟨0, 0, m⟩] m, .v (.int .i64 0)]) :=
  (viewNew_ok' q F hF 0 (by omega) m g gf f f2).mono (fun r n ⟨h1, h2⟩ => ⟨h1, by
    rcases h2 with ⟨_, h⟩ | ⟨h, _⟩
    · rw [h, line0 hF]
    · exact absurd h (by rw [okL0 hF hm]; decide)⟩)
end Go.Proofs.Ytpkodkoooaldlaa.A

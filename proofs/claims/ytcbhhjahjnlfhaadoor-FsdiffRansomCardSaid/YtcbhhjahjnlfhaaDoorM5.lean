import Derived.WalkKit
import Derived.Below
import Derived.Laws.Rows
import Derived.Laws.CopyRow
import Derived.Laws.AppendOwn
import Derived.RangeFuncLeaves
import Derived.RangeFuncSeq
import Derived.RangeFuncCalls
import Derived.MapKept
import Derived.Orders
import Derived.Laws.IdiomStrings
import Derived.Laws.BytesArg
import Derived.Shelf.SlIter.Nil
import Derived.Shelf.SortM.Plain
import Derived.Shelf.SortM.SortNone
import Derived.Ground.GgzProg
import Derived.Ground.SlgmProg
import Derived.Test.YtcbhhjahjnlfhaaDoorProg
import Derived.KernelRfl
import Derived.RangeFuncBound
import Derived.Maps.RangeRun
import Derived.DeepKeys3
import Derived.Laws.StructEq
import Derived.Shelf.SlSortCmp.NoneTotal
import Derived.ChangeKeysEq
import Derived.Laws.MakeOwn
import Derived.ChangeArms
import Derived.ChangeOld
import Derived.Laws.DeepStrings4
import Derived.OpenShut
import Derived.OrdersIn
import Derived.Lib.AppendZeros
import Derived.Lib.AppendZerosOnto
import Derived.Lib.Overlaps
import Derived.Deep.AppendSrc
import Derived.Lib.BytesEntry
import Derived.Laws.Concat
import Derived.Laws.Strings3
import Derived.Test.YtcbhhjahjnlfhaaDoorRows
import Derived.ProofKit
import Derived.LaidMore
import Derived.Stop.Joined
import Derived.Test.YtcbhhjahjnlfhaaDoorM4
namespace Go.Proofs.YtcbhhjahjnlfhaaDoor.A
open Go Go.RowKit
set_option linter.unusedVariables false
set_option linter.unusedSimpArgs false
set_option maxRecDepth 100000
theorem TF.en57 : entersT Tryd.prog 57 := enters_of Tryd.func57 (by kernel_rfl) (by kernel_rfl)
theorem TF.en54 : entersT Tryd.prog 54 := enters_of Tryd.func54 (by kernel_rfl) (by kernel_rfl)
theorem TF.zero109 : ZeroT Tryd.prog 109 [.v (.map none)] := ⟨[(.map none)], by kernel_rfl, (LeCells.refl _)⟩
theorem TF.sz109 : szT Tryd.prog 109 = some 1 := by kernel_rfl
theorem TF.en55 : entersT Tryd.prog 55 := enters_of Tryd.func55 (by kernel_rfl) (by kernel_rfl)
theorem TF.zero9 : ZeroT Tryd.prog 9 [.v (.string ⟨#[]⟩)] := ⟨[(.string ⟨#[]⟩)], by kernel_rfl, (LeCells.refl _)⟩
theorem TF.pl70 : placesT Tryd.prog 70 = some [(0, 1), (1, 1), (2, 1), (3, 1)] := by kernel_rfl
theorem TF.zero70 : ZeroT Tryd.prog 70 [.v (.int .i64 0), .v (.string ⟨#[]⟩), .v (.string ⟨#[]⟩), .sl 1 []] := ⟨[(.int .i64 0), (.string ⟨#[]⟩), (.string ⟨#[]⟩), (.slice none 0 0)], by kernel_rfl, (.cons (.refl _) (.cons (.refl _) (.cons (.refl _) (.cons (.nil 1) .nil))))⟩
theorem TF.sl57 : sliceT Tryd.prog 57 = some 70 := by kernel_rfl
theorem TF.sz70 : szT Tryd.prog 70 = some 4 := by kernel_rfl
theorem TF.zraw70 : zeroT Tryd.prog 70 = some [(.int .i64 0), (.string ⟨#[]⟩), (.string ⟨#[]⟩), (.slice none 0 0)] := by kernel_rfl
theorem TF.by70 : bytesT Tryd.prog 70 = some 64 := by kernel_rfl
theorem TF.zlen70 : (zeroT Tryd.prog 70).map (·.length) = some 4 := by kernel_rfl
theorem TF.en58 : entersT Tryd.prog 58 := enters_of Tryd.func58 (by kernel_rfl) (by kernel_rfl)
theorem withoutW_ok {a b : List File} {ma mb : List (ByteArray × List UInt8)} (ha : TellsS ma a) (hb : TellsS mb b) (hsz : ∀ f ∈ a, f.name.size ≤ 1000000) (hlen : a.length ≤ 1000000) {ba bb : Nat} {f1 f2 : Bool} : AC Tryd.prog 55 [.v (.map (some ba)), .v (.map (some bb))] [⟨ba, f1, .map (encM Value.string bts ma)⟩, ⟨bb, f2, .map (encM Value.string bts mb)⟩] (fun r n => n = [] ∧ r = strsA (wentF a b)) := by
  rw [← went_eq ha hb]; exact without_ok ma mb ha.nd (keys_size ha hsz) (by have := ha.len; omega)
theorem withoutX_ok {a b : List File} {ma mb : List (ByteArray × List UInt8)} (ha : TellsS ma a) (hb : TellsS mb b) (hsz : ∀ f ∈ a, f.name.size ≤ 1000000) (hlen : a.length ≤ 1000000) {ba bb : Nat} {f1 f2 : Bool} : AC Tryd.prog 55 [.v (.map (some ba)), .v (.map (some bb))] [⟨ba, f1, .map (encM Value.string bts ma)⟩, ⟨bb, f2, .map (encM Value.string bts mb)⟩] (GrowS (wentF a b)) := by
  rw [← went_eq ha hb]; exact withoutG_ok ma mb ha.nd (keys_size ha hsz) (by have := ha.len; omega)
theorem orderN_ok {a : List File} {m : List (ByteArray × List UInt8)} (ha : TellsS m a) (hsz : ∀ f ∈ a, f.name.size ≤ 1000000) (hlen : a.length ≤ 1000000) {b : Nat} {fl : Bool} : AC Tryd.prog 59 [.v (.map (some b))] [⟨b, fl, .map (encM Value.string bts m)⟩] (fun r n => n = [] ∧ r = strsA (namesF a)) := by
  rw [← keys_names ha]; exact order_ok m ha.nd (keys_size ha hsz) (by have := ha.len; omega)
set_option maxHeartbeats 2000000 in
theorem of_ok (a b : List File) (hla : a.length ≤ 1000) (hlb : b.length ≤ 1000) (hnsa : ∀ f ∈ a, f.name.size ≤ 1000000) (hnsb : ∀ f ∈ b, f.name.size ≤ 1000000) (hdA : ∀ f ∈ a, f.data.length ≤ 1000000) (hdb : ∀ f ∈ b, f.data.length ≤ 1000000) : AC Tryd.prog 18 [files a, files b] [] (fun r n => n = [] ∧ r = fcsA (OfF a b)) := by
 refine ac_of_awp (rs := [4]) (nt := 111) Tryd.func18 rfl rfl rfl rfl (fun w0 C0 hq => ?_)
 refine awp_seq ?_
 refine awp_region ?_
 refine r_assign rfl rfl ?_
 refine awl_nil ?_
 refine x_then ?_
 refine awp_seq ?_
 refine awp_region ?_
 refine r_move rfl rfl ?_
 refine r_callO hq rfl rfl (.cons (.ev rfl rfl) .nil) (named_ok a (by omega) hdA) rfl TF.en54 (List.nil_sublist _) rfl (fun r nobjs hr => ?_)
 obtain ⟨bx, mx, rfl, rfl, htx⟩ := hr
 refine r_move rfl rfl ?_
 refine r_callO hq rfl rfl (.cons (.ev rfl rfl) .nil) (named_ok b (by omega) hdb) rfl TF.en54 (List.nil_sublist _) rfl (fun r nobjs hr => ?_)
 obtain ⟨by_, my, rfl, rfl, hty⟩ := hr
 refine r_alloc TF.zero109 rfl (fun b5 => ?_)
 refine r_alloc TF.zero109 rfl (fun b6 => ?_)
 refine r_store 1 rfl rfl rfl TF.sz109 rfl rfl rfl ?_
 refine r_store 0 rfl rfl rfl TF.sz109 rfl rfl rfl ?_
 refine awl_nil ?_
 refine x_then ?_
 refine awp_seq ?_
 refine awp_imp (imp_commit 0 6 rfl rfl rfl rfl) ?_
 refine awp_imp (imp_commit 0 5 rfl rfl rfl rfl) ?_
 refine awp_imp (imp_perm (List.Perm.swap _ _ _)) ?_
 have hwl := went_len a b
 have hnl := names_len a
 refine awp_drawS [24, 25, 26, 27, 28] [_, _, _, _, _] [] [] TF.mixed rfl rfl rfl ⟨⟨⟨⟨⟨trivial
  , ⟨_, rfl, fun sl hd hr ho => by
    refine r_load1 (hr 5 _ rfl rfl rfl) TF.agg109 rfl ?_
    exact awl_nil ⟨rfl, post_put⟩⟩⟩
  , ⟨_, rfl, fun sl hd hr ho => by
    refine r_load1 (hr 6 _ rfl rfl rfl) TF.agg109 rfl ?_
    exact awl_nil ⟨rfl, post_put⟩⟩⟩
  , ⟨_, rfl, fun sl hd hr ho => by
    refine r_callO hq rfl rfl (.cons (.ev (hd 0 _ rfl rfl rfl) rfl) (.cons (.ev (hd 1 _ rfl rfl rfl) rfl) .nil)) (withoutW_ok htx hty hnsa (by omega)) rfl TF.en55 (List.Sublist.refl _) rfl (fun r nobjs hr => ?_)
    obtain ⟨rfl, rfl⟩ := hr
    exact awl_nil ⟨rfl, post_put⟩⟩⟩
  , ⟨_, rfl, fun sl hd hr ho => by
    refine r_load1 (hr 6 _ rfl rfl rfl) TF.agg109 rfl ?_
    exact awl_nil ⟨rfl, post_put⟩⟩⟩
  , ⟨_, rfl, fun sl hd hr ho => by
    refine r_load1 (hr 5 _ rfl rfl rfl) TF.agg109 rfl ?_
    exact awl_nil ⟨rfl, post_put⟩⟩⟩
  (by rfl) ?_
 refine r_callO hq rfl rfl (.cons (.ev rfl rfl) (.cons (.ev rfl rfl) .nil)) ((withoutX_ok hty htx hnsb (by omega)).swap) rfl TF.en55 (List.Sublist.refl _) rfl (fun r nobjs hr => ?_)
 rcases hr with ⟨h0, rfl, rfl⟩ | ⟨g2, cap, ext, hcap, rfl, rfl⟩
 ·
  refine r_assign rfl rfl ?_
  refine r_assign rfl rfl ?_
  refine awl_nil ?_
  refine x_then ?_
  refine awp_seq ?_
  refine awp_region ?_
  refine r_assign rfl rfl ?_
  refine r_assign rfl rfl ?_
  refine awl_nil ?_
  refine x_then ?_
  refine awp_seq ?_
  refine awp_seq ?_
  refine awp_region ?_
  refine r_move rfl rfl ?_
  refine r_lenS rfl rfl TF.sl54 rfl ?_
  refine r_move rfl rfl ?_
  refine awl_nil ?_
  refine x_then ?_
  refine awp_block ?_
  refine awp_loop (fun nn0 S => ∃ k : Nat, ∃ gone : List FC, S = ⟨111, [(5, .a (.cp [.v (.map (some bx))])), (6, .a (.cp [.v (.map (some by_))])), (8, .a (.v (.slice none 0 0))), (9, .own 9 4 (([] : List FC).map FC.cs)), (10, .own 10 4 (gone.map FC.cs)), (30, .a (strsA (wentF a b))), (31, .a (.v (.int .i64 (((wentF a b).map (fun s : ByteArray => [AV.v (.string s)])).length)))), (32, .a (.v (.int .i64 ((k : Int)))))], [⟨bx, true, .map (encM Value.string bts mx)⟩, ⟨by_, true, .map (encM Value.string bts my)⟩]⟩ ∧ nn0 = (wentF a b).length - k ∧ (k ≤ (wentF a b).length) ∧ (splitF a b k = (([] : List ByteArray), ([] : List FC), gone)) ∧ (gone.length ≤ k)) ((wentF a b).length - (0)) ⟨111, [(5, .a (.cp [.v (.map (some bx))])), (6, .a (.cp [.v (.map (some by_))])), (8, .a (.v (.slice none 0 0))), (9, .own 9 4 (([] : List FC).map FC.cs)), (10, .own 10 4 (([]).map FC.cs)), (30, .a (strsA (wentF a b))), (31, .a (.v (.int .i64 (((wentF a b).map (fun s : ByteArray => [AV.v (.string s)])).length)))), (32, .a (.v (.int .i64 (((0) : Int)))))], [⟨bx, true, .map (encM Value.string bts mx)⟩, ⟨by_, true, .map (encM Value.string bts my)⟩]⟩ ⟨rfl, (Slots.cons rfl (by first | exact .refl _ | exact .nilOwn _ _ | exact .nilSl _ | exact .ownSl _ _ _  | exact SV.le.of_eq (by simp)) (Slots.cons rfl (by first | exact .refl _ | exact .nilOwn _ _ | exact .nilSl _ | exact .ownSl _ _ _  | exact SV.le.of_eq (by simp)) (Slots.cons rfl (by first | exact .refl _ | exact .nilOwn _ _ | exact .nilSl _ | exact .ownSl _ _ _  | exact SV.le.of_eq (by simp)) (Slots.cons rfl (by first | exact .refl _ | exact .nilOwn _ _ | exact .nilSl _ | exact .ownSl _ _ _  | exact SV.le.of_eq (by simp)) (Slots.cons rfl (by first | exact .refl _ | exact .nilOwn _ _ | exact .nilSl _ | exact .ownSl _ _ _  | exact SV.le.of_eq (by simp)) (Slots.cons rfl (by first | exact .refl _ | exact .nilOwn _ _ | exact .nilSl _ | exact .ownSl _ _ _  | exact SV.le.of_eq (by simp)) (Slots.cons rfl (by first | exact .refl _ | exact .nilOwn _ _ | exact .nilSl _ | exact .ownSl _ _ _  | exact SV.le.of_eq (by simp)) (Slots.cons rfl (by first | exact .refl _ | exact .nilOwn _ _ | exact .nilSl _ | exact .ownSl _ _ _  | exact SV.le.of_eq (by simp)) Slots.nil)))))))), (by first | exact List.Sublist.refl _ | exact .cons_cons _ (.cons _ (.refl _)) | exact List.nil_sublist _ | exact .cons _ (.refl _) | exact .cons _ (.cons _ (.refl _)) | exact .cons _ (.cons _ (.cons _ (.refl _))) | exact .cons _ (.cons _ (.cons _ (.cons _ (.refl _)))) | exact .cons_cons _ (List.nil_sublist _))⟩ ⟨0, [], rfl, rfl, Nat.zero_le _, (by rw [splitF, h0]; rfl), (by simp)⟩ ?_
  rintro nn0 _ ⟨k, gone, rfl, rfl, hk, hst, hgl⟩
  refine awp_seq ?_
  refine awp_region ?_
  refine r_cmp rfl rfl rfl rfl ?_
  refine awl_nil ?_
  refine x_then ?_
  refine awp_seq ?_
  refine awp_cond rfl (fun hc0 => ?_) (fun hc0 => ?_)
  ·
   have hltx : k < (wentF a b).length := by have := of_decide_eq_true hc0; simpa using this
   obtain ⟨x, hx⟩ := get_lt hltx
   refine awp_skip ?_
   refine x_then ?_
   refine awp_seq ?_
   refine awp_block ?_
   refine awp_seq ?_
   refine awp_region ?_
   refine r_index rfl rfl rfl TF.sl54 TF.sz9 (by omega) (get_map hx) rfl ?_
   refine r_load1 rfl TF.agg9 rfl ?_
   refine r_alloc TF.zero9 rfl (fun b12 => ?_)
   refine r_store 0 rfl rfl rfl TF.sz9 rfl rfl rfl ?_
   refine awl_nil ?_
   refine x_then ?_
   refine awp_seq ?_
   refine awp_region ?_
   refine awl_imp (imp_commit 0 12 rfl rfl rfl rfl) ?_
   refine r_move rfl rfl ?_
   refine r_makeFunc rfl (.cons (.ev rfl rfl) (.cons (.ev rfl rfl) (.cons (.ev rfl rfl) .nil))) rfl ?_
   refine r_call0 hq rfl rfl (.cons (.ev rfl rfl) (.cons (.ev rfl rfl) .nil)) (idxN_ok) rfl TF.en56 rfl (fun r hr => ?_)
   obtain rfl := hr
   refine r_assign rfl rfl ?_
   refine awl_nil ?_
   refine x_then ?_
   refine awp_seq ?_
   refine awp_seq ?_
   refine awp_region ?_
   refine r_move rfl rfl ?_
   refine r_cmp rfl rfl rfl rfl ?_
   refine awl_nil ?_
   refine x_then ?_
   refine awp_cond rfl (fun hc1 => ?_) (fun hc1 => ?_)
   ·
    refine awp_seq ?_
    refine awp_region ?_
    refine r_move rfl rfl ?_
    refine r_load1 rfl TF.agg9 rfl ?_
    refine r_build (parts := [(0, .const ((Go.Value.int Go.IntKind.i64 2))), (1, .tmp 42)]) rfl TF.pl70 TF.zero70 rfl rfl rfl ?_
    refine r_lit 44 (parts := [(0, .tmp 43)]) rfl TF.sl57 TF.sz70 TF.zraw70 rfl rfl rfl rfl rfl rfl rfl ?_
    refine r_append 10 rfl (by first | exact .own _ | exact .nil) rfl (by first | exact .sl _ | exact .own _ _ | exact .nil) TF.sl57 TF.sz70 (by decide) TF.by70 TF.zlen70 (by simp [chunks] <;> omega) (by simp [chunks] <;> omega) rfl ?_
    refine r_assign rfl rfl ?_
    refine awl_nil ?_
    refine x_then ?_
    refine awp_exit ?_
    refine x_thenE ?_
    refine x_blockE ?_
    refine x_then ?_
    refine awp_region ?_
    refine r_ari _ rfl rfl rfl (wrap_id (by first | omega | (simp; omega))) rfl ?_
    refine r_move rfl rfl ?_
    refine awl_nil ?_
    refine x_then ?_
    refine ⟨(wentF a b).length - (k + 1), ⟨111, [(5, .a (.cp [.v (.map (some bx))])), (6, .a (.cp [.v (.map (some by_))])), (8, .a (.v (.slice none 0 0))), (9, .own 9 4 (([] : List FC).map FC.cs)), (10, .own 10 4 ((gone ++ [(⟨2, x, E0, []⟩ : FC)]).map FC.cs)), (30, .a (strsA (wentF a b))), (31, .a (.v (.int .i64 (((wentF a b).map (fun s : ByteArray => [AV.v (.string s)])).length)))), (32, .a (.v (.int .i64 (((k + 1) : Int)))))], [⟨bx, true, .map (encM Value.string bts mx)⟩, ⟨by_, true, .map (encM Value.string bts my)⟩]⟩, ⟨rfl, (Slots.cons rfl (by first | exact .refl _ | exact .nilOwn _ _ | exact .nilSl _ | exact .ownSl _ _ _  | exact SV.le.ownEq (by first | rfl | (rw [List.map_append]; rfl) | (simp [List.map_append]; done)) | exact SV.le.of_eq (by first | rfl | (rw [List.map_append]; rfl) | (simp [List.map_append]; done))) (Slots.cons rfl (by first | exact .refl _ | exact .nilOwn _ _ | exact .nilSl _ | exact .ownSl _ _ _  | exact SV.le.ownEq (by first | rfl | (rw [List.map_append]; rfl) | (simp [List.map_append]; done)) | exact SV.le.of_eq (by first | rfl | (rw [List.map_append]; rfl) | (simp [List.map_append]; done))) (Slots.cons rfl (by first | exact .refl _ | exact .nilOwn _ _ | exact .nilSl _ | exact .ownSl _ _ _  | exact SV.le.ownEq (by first | rfl | (rw [List.map_append]; rfl) | (simp [List.map_append]; done)) | exact SV.le.of_eq (by first | rfl | (rw [List.map_append]; rfl) | (simp [List.map_append]; done))) (Slots.cons rfl (by first | exact .refl _ | exact .nilOwn _ _ | exact .nilSl _ | exact .ownSl _ _ _  | exact SV.le.ownEq (by first | rfl | (rw [List.map_append]; rfl) | (simp [List.map_append]; done)) | exact SV.le.of_eq (by first | rfl | (rw [List.map_append]; rfl) | (simp [List.map_append]; done))) (Slots.cons rfl (by first | exact .refl _ | exact .nilOwn _ _ | exact .nilSl _ | exact .ownSl _ _ _  | exact SV.le.ownEq (by first | rfl | (rw [List.map_append]; rfl) | (simp [List.map_append]; done)) | exact SV.le.of_eq (by first | rfl | (rw [List.map_append]; rfl) | (simp [List.map_append]; done))) (Slots.cons rfl (by first | exact .refl _ | exact .nilOwn _ _ | exact .nilSl _ | exact .ownSl _ _ _  | exact SV.le.ownEq (by first | rfl | (rw [List.map_append]; rfl) | (simp [List.map_append]; done)) | exact SV.le.of_eq (by first | rfl | (rw [List.map_append]; rfl) | (simp [List.map_append]; done))) (Slots.cons rfl (by first | exact .refl _ | exact .nilOwn _ _ | exact .nilSl _ | exact .ownSl _ _ _  | exact SV.le.ownEq (by first | rfl | (rw [List.map_append]; rfl) | (simp [List.map_append]; done)) | exact SV.le.of_eq (by first | rfl | (rw [List.map_append]; rfl) | (simp [List.map_append]; done))) (Slots.cons rfl (by first | exact .refl _ | exact .nilOwn _ _ | exact .nilSl _ | exact .ownSl _ _ _  | exact SV.le.ownEq (by first | rfl | (rw [List.map_append]; rfl) | (simp [List.map_append]; done)) | exact SV.le.of_eq (by first | rfl | (rw [List.map_append]; rfl) | (simp [List.map_append]; done))) Slots.nil)))))))), (by first | exact List.Sublist.refl _ | exact .cons_cons _ (.cons _ (.refl _)) | exact List.nil_sublist _ | exact .cons _ (.refl _) | exact .cons _ (.cons _ (.refl _)) | exact .cons _ (.cons _ (.cons _ (.refl _))) | exact .cons _ (.cons _ (.cons _ (.cons _ (.refl _)))) | exact .cons_cons _ (List.nil_sublist _))⟩, (by omega), ⟨k + 1, gone ++ [(⟨2, x, E0, []⟩ : FC)], rfl, rfl, (by omega), (split_none hx hst rfl), (by simp; omega)⟩⟩
   ·
    exfalso; exact absurd hc1 (by decide)
  ·
   have hge : (wentF a b).length ≤ k := by have := of_decide_eq_false hc0; simp at this; omega
   obtain rfl : k = (wentF a b).length := by omega
   refine awp_exit ?_
   refine x_thenE ?_
   refine x_thenE ?_
   refine x_blockE ?_
   refine x_then ?_
   refine awp_seq ?_
   refine awp_region ?_
   refine r_move rfl rfl ?_
   refine r_move rfl rfl ?_
   refine r_append 9 rfl (by first | exact .own _ | exact .nil) rfl (by first | exact .sl _ | exact .own _ _ | exact .nil) TF.sl57 TF.sz70 (by decide) TF.by70 TF.zlen70 (by simp [chunks] <;> omega) (by simp [chunks] <;> omega) rfl ?_
   refine r_assign rfl rfl ?_
   refine awl_nil ?_
   refine x_then ?_
   refine awp_seq ?_
   refine awp_seq ?_
   refine awp_region ?_
   refine r_load1 rfl TF.agg109 rfl ?_
   refine r_callO hq rfl rfl (.cons (.ev rfl rfl) .nil) (orderN_ok htx hnsa (by omega)) rfl TF.en59 (.cons_cons _ (List.nil_sublist _)) rfl (fun r nobjs hr => ?_)
   obtain ⟨rfl, rfl⟩ := hr
   refine r_lenS rfl rfl TF.sl54 rfl ?_
   refine r_move rfl rfl ?_
   refine awl_nil ?_
   refine x_then ?_
   refine awp_block ?_
   refine awp_loop (fun nn0 S => ∃ k : Nat, S = ⟨111, [(5, .a (.cp [.v (.map (some bx))])), (6, .a (.cp [.v (.map (some by_))])), (8, .a (.v (.slice none 0 0))), (9, .own 9 4 ((gone ++ ((namesF a).take k).filterMap (chgF a b)).map FC.cs)), (65, .a (strsA (namesF a))), (66, .a (.v (.int .i64 (((namesF a).map (fun s : ByteArray => [AV.v (.string s)])).length)))), (67, .a (.v (.int .i64 ((k : Int)))))], [⟨bx, true, .map (encM Value.string bts mx)⟩, ⟨by_, true, .map (encM Value.string bts my)⟩]⟩ ∧ nn0 = (namesF a).length - k ∧ (k ≤ (namesF a).length)) ((namesF a).length - (0)) ⟨111, [(5, .a (.cp [.v (.map (some bx))])), (6, .a (.cp [.v (.map (some by_))])), (8, .a (.v (.slice none 0 0))), (9, .own 9 4 ((gone ++ ((namesF a).take (0)).filterMap (chgF a b)).map FC.cs)), (65, .a (strsA (namesF a))), (66, .a (.v (.int .i64 (((namesF a).map (fun s : ByteArray => [AV.v (.string s)])).length)))), (67, .a (.v (.int .i64 (((0) : Int)))))], [⟨bx, true, .map (encM Value.string bts mx)⟩, ⟨by_, true, .map (encM Value.string bts my)⟩]⟩ ⟨rfl, (Slots.cons rfl (by first | exact .refl _ | exact .nilOwn _ _ | exact .nilSl _ | exact .ownSl _ _ _  | exact SV.le.ownEq (by simp [chunks]) | exact SV.le.of_eq (by simp [chunks])) (Slots.cons rfl (by first | exact .refl _ | exact .nilOwn _ _ | exact .nilSl _ | exact .ownSl _ _ _  | exact SV.le.ownEq (by simp [chunks]) | exact SV.le.of_eq (by simp [chunks])) (Slots.cons rfl (by first | exact .refl _ | exact .nilOwn _ _ | exact .nilSl _ | exact .ownSl _ _ _  | exact SV.le.ownEq (by simp [chunks]) | exact SV.le.of_eq (by simp [chunks])) (Slots.cons rfl (by first | exact .refl _ | exact .nilOwn _ _ | exact .nilSl _ | exact .ownSl _ _ _  | exact SV.le.ownEq (by simp [chunks]) | exact SV.le.of_eq (by simp [chunks])) (Slots.cons rfl (by first | exact .refl _ | exact .nilOwn _ _ | exact .nilSl _ | exact .ownSl _ _ _  | exact SV.le.ownEq (by simp [chunks]) | exact SV.le.of_eq (by simp [chunks])) (Slots.cons rfl (by first | exact .refl _ | exact .nilOwn _ _ | exact .nilSl _ | exact .ownSl _ _ _  | exact SV.le.ownEq (by simp [chunks]) | exact SV.le.of_eq (by simp [chunks])) (Slots.cons rfl (by first | exact .refl _ | exact .nilOwn _ _ | exact .nilSl _ | exact .ownSl _ _ _  | exact SV.le.ownEq (by simp [chunks]) | exact SV.le.of_eq (by simp [chunks])) Slots.nil))))))), (by first | exact List.Sublist.refl _ | exact .cons_cons _ (.cons _ (.refl _)) | exact List.nil_sublist _ | exact .cons _ (.refl _) | exact .cons _ (.cons _ (.refl _)) | exact .cons _ (.cons _ (.cons _ (.refl _))) | exact .cons _ (.cons _ (.cons _ (.cons _ (.refl _)))) | exact .cons_cons _ (List.nil_sublist _))⟩ ⟨0, rfl, rfl, Nat.zero_le _⟩ ?_
   rintro nn0 _ ⟨k, rfl, rfl, hk1⟩
   refine awp_seq ?_
   refine awp_region ?_
   refine r_cmp rfl rfl rfl rfl ?_
   refine awl_nil ?_
   refine x_then ?_
   refine awp_seq ?_
   refine awp_cond rfl (fun hc2 => ?_) (fun hc2 => ?_)
   ·
    have hltx : k < (namesF a).length := by have := of_decide_eq_true hc2; simpa using this
    obtain ⟨x, hx⟩ := get_lt hltx
    have hf1 : (((namesF a).take k).filterMap (chgF a b)).length ≤ k := Nat.le_trans (List.length_filterMap_le _ _) (by simp; omega)
    refine awp_skip ?_
    refine x_then ?_
    refine awp_seq ?_
    refine awp_block ?_
    refine awp_seq ?_
    refine awp_region ?_
    refine r_index rfl rfl rfl TF.sl54 TF.sz9 (by omega) (get_map hx) rfl ?_
    refine r_load1 rfl TF.agg9 rfl ?_
    refine r_assign rfl rfl ?_
    refine awl_nil ?_
    refine x_then ?_
    refine awp_seq ?_
    refine awp_region ?_
    refine r_load1 rfl TF.agg109 rfl ?_
    refine r_move rfl rfl ?_
    refine r_lookupOk 1 (keyEnc_string TF.un9) (ev := bts) [] rfl rfl rfl TF.map109 TF.zavS rfl ?_
    refine r_move rfl rfl ?_
    refine r_extract rfl rfl rfl ?_
    refine r_extract rfl rfl rfl ?_
    refine r_assign rfl rfl ?_
    refine r_assign rfl rfl ?_
    refine awl_nil ?_
    refine x_then ?_
    refine awp_seq ?_
    refine awp_region ?_
    refine r_move rfl rfl ?_
    refine r_move rfl rfl ?_
    refine g_cases (t' := 78) rfl (fun hg78 => ?_) (fun hg78 => ?_)
    ·
     obtain ⟨d, hdq⟩ : ∃ d, mget my x = some d := Option.isSome_iff_exists.1 hg78
     have hq2 : lookF b x = some d := by rw [← hty.get, hdq]
     refine g_run rfl rfl hg78 ?_
     refine r_load1 rfl TF.agg109 rfl ?_
     refine g_run rfl rfl hg78 ?_
     refine r_move rfl rfl ?_
     refine g_run rfl rfl hg78 ?_
     refine r_lookup 0 (keyEnc_string TF.un9) (ev := bts) [] rfl rfl rfl TF.map109 TF.zavS rfl ?_
     refine g_run rfl rfl hg78 ?_
     refine r_move rfl rfl ?_
     refine g_run rfl rfl hg78 ?_
     refine r_call0 hq rfl rfl (.cons (.ev rfl rfl) (.cons (.ev rfl rfl) .nil)) (equal_ok _ _) rfl TF.en35 rfl (fun r hr => ?_)
     obtain rfl := hr
     refine g_run rfl rfl hg78 ?_
     refine r_not rfl rfl ?_
     refine r_pickT rfl hg78 rfl rfl ?_
     refine awl_nil ?_
     refine x_then ?_
     refine awp_cond rfl (fun hc3 => ?_) (fun hc3 => ?_)
     ·
      rw [hdq] at hc3 ⊢
      have hne : decide ((lookF a x).getD [] = d) = false := by rw [← htx.get]; simpa using hc3
      have ht : chgF a b x = some ⟨3, x, E0, d⟩ := by rw [chgF, hq2]; simp only [hne, cond_false]
      have hdl : d.length ≤ 1000000 := by have := look_len hdb x; rw [hq2] at this; simpa using this
      refine awp_region ?_
      refine r_move rfl rfl ?_
      refine r_move rfl rfl ?_
      refine r_move rfl rfl ?_
      refine r_call0 hq rfl rfl (.cons (.ev rfl rfl) .nil) (clone_ok d hdl) rfl TF.en47 rfl (fun r hr => ?_)
      obtain rfl := hr
      refine r_build (parts := [(0, .const ((Go.Value.int Go.IntKind.i64 3))), (1, .tmp 87), (3, .tmp 89)]) rfl TF.pl70 TF.zero70 rfl rfl rfl ?_
      refine r_lit 91 (parts := [(0, .tmp 90)]) rfl TF.sl57 TF.sz70 TF.zraw70 rfl rfl rfl rfl rfl rfl rfl ?_
      refine r_append 9 rfl (by first | exact .own _ | exact .nil) rfl (by first | exact .sl _ | exact .own _ _ | exact .nil) TF.sl57 TF.sz70 (by decide) TF.by70 TF.zlen70 (by simp [chunks] <;> omega) (by simp [chunks] <;> omega) rfl ?_
      refine r_assign rfl rfl ?_
      refine awl_nil ?_
      refine x_block ?_
      refine x_then ?_
      refine awp_region ?_
      refine r_ari _ rfl rfl rfl (wrap_id (by first | omega | (simp; omega))) rfl ?_
      refine r_move rfl rfl ?_
      refine awl_nil ?_
      refine x_then ?_
      have et := fmS_step (f := chgF a b) hx
      rw [ht] at et
      simp only [Option.toList_some, Option.toList_none, List.append_nil] at et
      refine ⟨(namesF a).length - (k + 1), ⟨111, [(5, .a (.cp [.v (.map (some bx))])), (6, .a (.cp [.v (.map (some by_))])), (8, .a (.v (.slice none 0 0))), (9, .own 9 4 ((gone ++ ((namesF a).take (k + 1)).filterMap (chgF a b)).map FC.cs)), (65, .a (strsA (namesF a))), (66, .a (.v (.int .i64 (((namesF a).map (fun s : ByteArray => [AV.v (.string s)])).length)))), (67, .a (.v (.int .i64 (((k + 1) : Int)))))], [⟨bx, true, .map (encM Value.string bts mx)⟩, ⟨by_, true, .map (encM Value.string bts my)⟩]⟩, ⟨rfl, (Slots.cons rfl (by first | exact .refl _ | exact .nilOwn _ _ | exact .nilSl _ | exact .ownSl _ _ _  | exact SV.le.ownEq (by first | rfl | (rw [et, ← List.append_assoc gone, List.map_append (l₁ := (gone ++ ((namesF a).take k).filterMap (chgF a b)))]; rfl) | (rw [et]; first | done | rfl)) | exact SV.le.of_eq (by first | rfl | (rw [et, ← List.append_assoc gone, List.map_append (l₁ := (gone ++ ((namesF a).take k).filterMap (chgF a b)))]; rfl) | (rw [et]; first | done | rfl))) (Slots.cons rfl (by first | exact .refl _ | exact .nilOwn _ _ | exact .nilSl _ | exact .ownSl _ _ _  | exact SV.le.ownEq (by first | rfl | (rw [et, ← List.append_assoc gone, List.map_append (l₁ := (gone ++ ((namesF a).take k).filterMap (chgF a b)))]; rfl) | (rw [et]; first | done | rfl)) | exact SV.le.of_eq (by first | rfl | (rw [et, ← List.append_assoc gone, List.map_append (l₁ := (gone ++ ((namesF a).take k).filterMap (chgF a b)))]; rfl) | (rw [et]; first | done | rfl))) (Slots.cons rfl (by first | exact .refl _ | exact .nilOwn _ _ | exact .nilSl _ | exact .ownSl _ _ _  | exact SV.le.ownEq (by first | rfl | (rw [et, ← List.append_assoc gone, List.map_append (l₁ := (gone ++ ((namesF a).take k).filterMap (chgF a b)))]; rfl) | (rw [et]; first | done | rfl)) | exact SV.le.of_eq (by first | rfl | (rw [et, ← List.append_assoc gone, List.map_append (l₁ := (gone ++ ((namesF a).take k).filterMap (chgF a b)))]; rfl) | (rw [et]; first | done | rfl))) (Slots.cons rfl (by first | exact .refl _ | exact .nilOwn _ _ | exact .nilSl _ | exact .ownSl _ _ _  | exact SV.le.ownEq (by first | rfl | (rw [et, ← List.append_assoc gone, List.map_append (l₁ := (gone ++ ((namesF a).take k).filterMap (chgF a b)))]; rfl) | (rw [et]; first | done | rfl)) | exact SV.le.of_eq (by first | rfl | (rw [et, ← List.append_assoc gone, List.map_append (l₁ := (gone ++ ((namesF a).take k).filterMap (chgF a b)))]; rfl) | (rw [et]; first | done | rfl))) (Slots.cons rfl (by first | exact .refl _ | exact .nilOwn _ _ | exact .nilSl _ | exact .ownSl _ _ _  | exact SV.le.ownEq (by first | rfl | (rw [et, ← List.append_assoc gone, List.map_append (l₁ := (gone ++ ((namesF a).take k).filterMap (chgF a b)))]; rfl) | (rw [et]; first | done | rfl)) | exact SV.le.of_eq (by first | rfl | (rw [et, ← List.append_assoc gone, List.map_append (l₁ := (gone ++ ((namesF a).take k).filterMap (chgF a b)))]; rfl) | (rw [et]; first | done | rfl))) (Slots.cons rfl (by first | exact .refl _ | exact .nilOwn _ _ | exact .nilSl _ | exact .ownSl _ _ _  | exact SV.le.ownEq (by first | rfl | (rw [et, ← List.append_assoc gone, List.map_append (l₁ := (gone ++ ((namesF a).take k).filterMap (chgF a b)))]; rfl) | (rw [et]; first | done | rfl)) | exact SV.le.of_eq (by first | rfl | (rw [et, ← List.append_assoc gone, List.map_append (l₁ := (gone ++ ((namesF a).take k).filterMap (chgF a b)))]; rfl) | (rw [et]; first | done | rfl))) (Slots.cons rfl (by first | exact .refl _ | exact .nilOwn _ _ | exact .nilSl _ | exact .ownSl _ _ _  | exact SV.le.ownEq (by first | rfl | (rw [et, ← List.append_assoc gone, List.map_append (l₁ := (gone ++ ((namesF a).take k).filterMap (chgF a b)))]; rfl) | (rw [et]; first | done | rfl)) | exact SV.le.of_eq (by first | rfl | (rw [et, ← List.append_assoc gone, List.map_append (l₁ := (gone ++ ((namesF a).take k).filterMap (chgF a b)))]; rfl) | (rw [et]; first | done | rfl))) Slots.nil))))))), (by first | exact List.Sublist.refl _ | exact .cons_cons _ (.cons _ (.refl _)) | exact List.nil_sublist _ | exact .cons _ (.refl _) | exact .cons _ (.cons _ (.refl _)) | exact .cons _ (.cons _ (.cons _ (.refl _))) | exact .cons _ (.cons _ (.cons _ (.cons _ (.refl _)))) | exact .cons_cons _ (List.nil_sublist _))⟩, (by omega), ⟨k + 1, rfl, rfl, (by omega)⟩⟩
     ·
      rw [hdq] at hc3
      have hne : decide ((lookF a x).getD [] = d) = true := by rw [← htx.get]; simpa using hc3
      have ht : chgF a b x = none := by rw [chgF, hq2]; simp only [hne, cond_true]
      refine awp_skip ?_
      refine x_block ?_
      refine x_then ?_
      refine awp_region ?_
      refine r_ari _ rfl rfl rfl (wrap_id (by first | omega | (simp; omega))) rfl ?_
      refine r_move rfl rfl ?_
      refine awl_nil ?_
      refine x_then ?_
      have et := fmS_step (f := chgF a b) hx
      rw [ht] at et
      simp only [Option.toList_some, Option.toList_none, List.append_nil] at et
      refine ⟨(namesF a).length - (k + 1), ⟨111, [(5, .a (.cp [.v (.map (some bx))])), (6, .a (.cp [.v (.map (some by_))])), (8, .a (.v (.slice none 0 0))), (9, .own 9 4 ((gone ++ ((namesF a).take (k + 1)).filterMap (chgF a b)).map FC.cs)), (65, .a (strsA (namesF a))), (66, .a (.v (.int .i64 (((namesF a).map (fun s : ByteArray => [AV.v (.string s)])).length)))), (67, .a (.v (.int .i64 (((k + 1) : Int)))))], [⟨bx, true, .map (encM Value.string bts mx)⟩, ⟨by_, true, .map (encM Value.string bts my)⟩]⟩, ⟨rfl, (Slots.cons rfl (by first | exact .refl _ | exact .nilOwn _ _ | exact .nilSl _ | exact .ownSl _ _ _  | exact SV.le.ownEq (by first | rfl | (rw [et, ← List.append_assoc gone, List.map_append (l₁ := (gone ++ ((namesF a).take k).filterMap (chgF a b)))]; rfl) | (rw [et]; first | done | rfl)) | exact SV.le.of_eq (by first | rfl | (rw [et, ← List.append_assoc gone, List.map_append (l₁ := (gone ++ ((namesF a).take k).filterMap (chgF a b)))]; rfl) | (rw [et]; first | done | rfl))) (Slots.cons rfl (by first | exact .refl _ | exact .nilOwn _ _ | exact .nilSl _ | exact .ownSl _ _ _  | exact SV.le.ownEq (by first | rfl | (rw [et, ← List.append_assoc gone, List.map_append (l₁ := (gone ++ ((namesF a).take k).filterMap (chgF a b)))]; rfl) | (rw [et]; first | done | rfl)) | exact SV.le.of_eq (by first | rfl | (rw [et, ← List.append_assoc gone, List.map_append (l₁ := (gone ++ ((namesF a).take k).filterMap (chgF a b)))]; rfl) | (rw [et]; first | done | rfl))) (Slots.cons rfl (by first | exact .refl _ | exact .nilOwn _ _ | exact .nilSl _ | exact .ownSl _ _ _  | exact SV.le.ownEq (by first | rfl | (rw [et, ← List.append_assoc gone, List.map_append (l₁ := (gone ++ ((namesF a).take k).filterMap (chgF a b)))]; rfl) | (rw [et]; first | done | rfl)) | exact SV.le.of_eq (by first | rfl | (rw [et, ← List.append_assoc gone, List.map_append (l₁ := (gone ++ ((namesF a).take k).filterMap (chgF a b)))]; rfl) | (rw [et]; first | done | rfl))) (Slots.cons rfl (by first | exact .refl _ | exact .nilOwn _ _ | exact .nilSl _ | exact .ownSl _ _ _  | exact SV.le.ownEq (by first | rfl | (rw [et, ← List.append_assoc gone, List.map_append (l₁ := (gone ++ ((namesF a).take k).filterMap (chgF a b)))]; rfl) | (rw [et]; first | done | rfl)) | exact SV.le.of_eq (by first | rfl | (rw [et, ← List.append_assoc gone, List.map_append (l₁ := (gone ++ ((namesF a).take k).filterMap (chgF a b)))]; rfl) | (rw [et]; first | done | rfl))) (Slots.cons rfl (by first | exact .refl _ | exact .nilOwn _ _ | exact .nilSl _ | exact .ownSl _ _ _  | exact SV.le.ownEq (by first | rfl | (rw [et, ← List.append_assoc gone, List.map_append (l₁ := (gone ++ ((namesF a).take k).filterMap (chgF a b)))]; rfl) | (rw [et]; first | done | rfl)) | exact SV.le.of_eq (by first | rfl | (rw [et, ← List.append_assoc gone, List.map_append (l₁ := (gone ++ ((namesF a).take k).filterMap (chgF a b)))]; rfl) | (rw [et]; first | done | rfl))) (Slots.cons rfl (by first | exact .refl _ | exact .nilOwn _ _ | exact .nilSl _ | exact .ownSl _ _ _  | exact SV.le.ownEq (by first | rfl | (rw [et, ← List.append_assoc gone, List.map_append (l₁ := (gone ++ ((namesF a).take k).filterMap (chgF a b)))]; rfl) | (rw [et]; first | done | rfl)) | exact SV.le.of_eq (by first | rfl | (rw [et, ← List.append_assoc gone, List.map_append (l₁ := (gone ++ ((namesF a).take k).filterMap (chgF a b)))]; rfl) | (rw [et]; first | done | rfl))) (Slots.cons rfl (by first | exact .refl _ | exact .nilOwn _ _ | exact .nilSl _ | exact .ownSl _ _ _  | exact SV.le.ownEq (by first | rfl | (rw [et, ← List.append_assoc gone, List.map_append (l₁ := (gone ++ ((namesF a).take k).filterMap (chgF a b)))]; rfl) | (rw [et]; first | done | rfl)) | exact SV.le.of_eq (by first | rfl | (rw [et, ← List.append_assoc gone, List.map_append (l₁ := (gone ++ ((namesF a).take k).filterMap (chgF a b)))]; rfl) | (rw [et]; first | done | rfl))) Slots.nil))))))), (by first | exact List.Sublist.refl _ | exact .cons_cons _ (.cons _ (.refl _)) | exact List.nil_sublist _ | exact .cons _ (.refl _) | exact .cons _ (.cons _ (.refl _)) | exact .cons _ (.cons _ (.cons _ (.refl _))) | exact .cons _ (.cons _ (.cons _ (.cons _ (.refl _)))) | exact .cons_cons _ (List.nil_sublist _))⟩, (by omega), ⟨k + 1, rfl, rfl, (by omega)⟩⟩
    ·
     have hq2 : lookF b x = none := by
      rw [← hty.get]
      cases h : mget my x with
      | none => rfl
      | some d => rw [h] at hg78; cases hg78
     have ht : chgF a b x = none := by rw [chgF, hq2]
     refine g_skip rfl rfl hg78 rfl ?_
     refine g_skip rfl rfl hg78 rfl ?_
     refine g_skip rfl rfl hg78 rfl ?_
     refine g_skip rfl rfl hg78 rfl ?_
     refine g_skip rfl rfl hg78 rfl ?_
     refine g_skip rfl rfl hg78 rfl ?_
     refine r_pickF rfl hg78 rfl rfl ?_
     refine awl_nil ?_
     refine x_then ?_
     refine awp_condF rfl ?_
     refine awp_skip ?_
     refine x_block ?_
     refine x_then ?_
     refine awp_region ?_
     refine r_ari _ rfl rfl rfl (wrap_id (by first | omega | (simp; omega))) rfl ?_
     refine r_move rfl rfl ?_
     refine awl_nil ?_
     refine x_then ?_
     have et := fmS_step (f := chgF a b) hx
     rw [ht] at et
     simp only [Option.toList_some, Option.toList_none, List.append_nil] at et
     refine ⟨(namesF a).length - (k + 1), ⟨111, [(5, .a (.cp [.v (.map (some bx))])), (6, .a (.cp [.v (.map (some by_))])), (8, .a (.v (.slice none 0 0))), (9, .own 9 4 ((gone ++ ((namesF a).take (k + 1)).filterMap (chgF a b)).map FC.cs)), (65, .a (strsA (namesF a))), (66, .a (.v (.int .i64 (((namesF a).map (fun s : ByteArray => [AV.v (.string s)])).length)))), (67, .a (.v (.int .i64 (((k + 1) : Int)))))], [⟨bx, true, .map (encM Value.string bts mx)⟩, ⟨by_, true, .map (encM Value.string bts my)⟩]⟩, ⟨rfl, (Slots.cons rfl (by first | exact .refl _ | exact .nilOwn _ _ | exact .nilSl _ | exact .ownSl _ _ _  | exact SV.le.ownEq (by first | rfl | (rw [et, ← List.append_assoc gone, List.map_append (l₁ := (gone ++ ((namesF a).take k).filterMap (chgF a b)))]; rfl) | (rw [et]; first | done | rfl)) | exact SV.le.of_eq (by first | rfl | (rw [et, ← List.append_assoc gone, List.map_append (l₁ := (gone ++ ((namesF a).take k).filterMap (chgF a b)))]; rfl) | (rw [et]; first | done | rfl))) (Slots.cons rfl (by first | exact .refl _ | exact .nilOwn _ _ | exact .nilSl _ | exact .ownSl _ _ _  | exact SV.le.ownEq (by first | rfl | (rw [et, ← List.append_assoc gone, List.map_append (l₁ := (gone ++ ((namesF a).take k).filterMap (chgF a b)))]; rfl) | (rw [et]; first | done | rfl)) | exact SV.le.of_eq (by first | rfl | (rw [et, ← List.append_assoc gone, List.map_append (l₁ := (gone ++ ((namesF a).take k).filterMap (chgF a b)))]; rfl) | (rw [et]; first | done | rfl))) (Slots.cons rfl (by first | exact .refl _ | exact .nilOwn _ _ | exact .nilSl _ | exact .ownSl _ _ _  | exact SV.le.ownEq (by first | rfl | (rw [et, ← List.append_assoc gone, List.map_append (l₁ := (gone ++ ((namesF a).take k).filterMap (chgF a b)))]; rfl) | (rw [et]; first | done | rfl)) | exact SV.le.of_eq (by first | rfl | (rw [et, ← List.append_assoc gone, List.map_append (l₁ := (gone ++ ((namesF a).take k).filterMap (chgF a b)))]; rfl) | (rw [et]; first | done | rfl))) (Slots.cons rfl (by first | exact .refl _ | exact .nilOwn _ _ | exact .nilSl _ | exact .ownSl _ _ _  | exact SV.le.ownEq (by first | rfl | (rw [et, ← List.append_assoc gone, List.map_append (l₁ := (gone ++ ((namesF a).take k).filterMap (chgF a b)))]; rfl) | (rw [et]; first | done | rfl)) | exact SV.le.of_eq (by first | rfl | (rw [et, ← List.append_assoc gone, List.map_append (l₁ := (gone ++ ((namesF a).take k).filterMap (chgF a b)))]; rfl) | (rw [et]; first | done | rfl))) (Slots.cons rfl (by first | exact .refl _ | exact .nilOwn _ _ | exact .nilSl _ | exact .ownSl _ _ _  | exact SV.le.ownEq (by first | rfl | (rw [et, ← List.append_assoc gone, List.map_append (l₁ := (gone ++ ((namesF a).take k).filterMap (chgF a b)))]; rfl) | (rw [et]; first | done | rfl)) | exact SV.le.of_eq (by first | rfl | (rw [et, ← List.append_assoc gone, List.map_append (l₁ := (gone ++ ((namesF a).take k).filterMap (chgF a b)))]; rfl) | (rw [et]; first | done | rfl))) (Slots.cons rfl (by first | exact .refl _ | exact .nilOwn _ _ | exact .nilSl _ | exact .ownSl _ _ _  | exact SV.le.ownEq (by first | rfl | (rw [et, ← List.append_assoc gone, List.map_append (l₁ := (gone ++ ((namesF a).take k).filterMap (chgF a b)))]; rfl) | (rw [et]; first | done | rfl)) | exact SV.le.of_eq (by first | rfl | (rw [et, ← List.append_assoc gone, List.map_append (l₁ := (gone ++ ((namesF a).take k).filterMap (chgF a b)))]; rfl) | (rw [et]; first | done | rfl))) (Slots.cons rfl (by first | exact .refl _ | exact .nilOwn _ _ | exact .nilSl _ | exact .ownSl _ _ _  | exact SV.le.ownEq (by first | rfl | (rw [et, ← List.append_assoc gone, List.map_append (l₁ := (gone ++ ((namesF a).take k).filterMap (chgF a b)))]; rfl) | (rw [et]; first | done | rfl)) | exact SV.le.of_eq (by first | rfl | (rw [et, ← List.append_assoc gone, List.map_append (l₁ := (gone ++ ((namesF a).take k).filterMap (chgF a b)))]; rfl) | (rw [et]; first | done | rfl))) Slots.nil))))))), (by first | exact List.Sublist.refl _ | exact .cons_cons _ (.cons _ (.refl _)) | exact List.nil_sublist _ | exact .cons _ (.refl _) | exact .cons _ (.cons _ (.refl _)) | exact .cons _ (.cons _ (.cons _ (.refl _))) | exact .cons _ (.cons _ (.cons _ (.cons _ (.refl _)))) | exact .cons_cons _ (List.nil_sublist _))⟩, (by omega), ⟨k + 1, rfl, rfl, (by omega)⟩⟩
   ·
    have hge : (namesF a).length ≤ k := by have := of_decide_eq_false hc2; simp at this; omega
    have hkl : (namesF a).take k = namesF a := List.take_of_length_le hge
    rw [hkl]
    have hf2 : ((namesF a).filterMap (chgF a b)).length ≤ (namesF a).length := List.length_filterMap_le _ _
    refine awp_exit ?_
    refine x_thenE ?_
    refine x_thenE ?_
    refine x_blockE ?_
    refine x_then ?_
    refine awp_seq ?_
    refine awp_seq ?_
    refine awp_region ?_
    refine r_move rfl rfl ?_
    refine r_lenNil rfl TF.sl54 rfl ?_
    refine r_move rfl rfl ?_
    refine awl_nil ?_
    refine x_then ?_
    refine awp_block ?_
    refine awp_loop (fun nn0 S => S = ⟨111, [(9, .own 9 4 ((gone ++ (namesF a).filterMap (chgF a b)).map FC.cs)), (95, .a (.v (.int .i64 (0)))), (96, .a (.v (.int .i64 (0))))], []⟩ ∧ nn0 = 0) (0) ⟨111, [(9, .own 9 4 ((gone ++ (namesF a).filterMap (chgF a b)).map FC.cs)), (95, .a (.v (.int .i64 (0)))), (96, .a (.v (.int .i64 (0))))], []⟩ ⟨rfl, (Slots.cons rfl (by first | exact .refl _ | exact .nilOwn _ _ | exact .nilSl _ | exact .ownSl _ _ _  | exact SV.le.of_eq (by simp)) (Slots.cons rfl (by first | exact .refl _ | exact .nilOwn _ _ | exact .nilSl _ | exact .ownSl _ _ _  | exact SV.le.of_eq (by simp)) (Slots.cons rfl (by first | exact .refl _ | exact .nilOwn _ _ | exact .nilSl _ | exact .ownSl _ _ _  | exact SV.le.of_eq (by simp)) Slots.nil))), (by first | exact List.Sublist.refl _ | exact .cons_cons _ (.cons _ (.refl _)) | exact List.nil_sublist _ | exact .cons _ (.refl _) | exact .cons _ (.cons _ (.refl _)) | exact .cons _ (.cons _ (.cons _ (.refl _))) | exact .cons _ (.cons _ (.cons _ (.cons _ (.refl _)))) | exact .cons_cons _ (List.nil_sublist _))⟩ ⟨rfl, rfl⟩ ?_
    rintro nn0 _ ⟨rfl, rfl⟩
    refine awp_seq ?_
    refine awp_region ?_
    refine r_cmp rfl rfl rfl rfl ?_
    refine awl_nil ?_
    refine x_then ?_
    refine awp_seq ?_
    refine awp_cond rfl (fun hc4 => ?_) (fun hc4 => ?_)
    ·
     exfalso; exact absurd hc4 (by decide)
    ·
     refine awp_exit ?_
     refine x_thenE ?_
     refine x_thenE ?_
     refine x_blockE ?_
     refine x_then ?_
     refine awp_seq ?_
     refine awp_region ?_
     refine r_move rfl rfl ?_
     refine r_assign rfl rfl ?_
     refine awl_nil ?_
     refine x_then ?_
     refine awp_ret ?_
     exact ⟨(.inl rfl), _, [], (.one (by first | exact .mk rfl rfl | exact .nil rfl)), ⟨rfl, by rw [OfF, show splitE a b = ([], [], gone) from hst]; simp [fcsA, SV.av]⟩, (List.nil_sublist _), (by simp)⟩
 ·
  refine r_assign rfl rfl ?_
  refine r_assign rfl rfl ?_
  refine awl_nil ?_
  refine x_then ?_
  refine awp_seq ?_
  refine awp_region ?_
  refine r_assign rfl rfl ?_
  refine r_assign rfl rfl ?_
  refine awl_nil ?_
  refine x_then ?_
  refine awp_seq ?_
  refine awp_seq ?_
  refine awp_region ?_
  refine r_move rfl rfl ?_
  refine r_lenS rfl rfl TF.sl54 rfl ?_
  refine r_move rfl rfl ?_
  refine awl_nil ?_
  refine x_then ?_
  refine awp_block ?_
  refine awp_loop (fun nn0 S => ∃ k : Nat, ∃ came : List ByteArray, ∃ out : List FC, ∃ gone : List FC, ∃ ext : List AV, S = ⟨111, [(5, .a (.cp [.v (.map (some bx))])), (6, .a (.cp [.v (.map (some by_))])), (8, .a (.v (.slice (some ⟨g2, 0, none⟩) came.length cap))), (9, .own 9 4 (out.map FC.cs)), (10, .own 10 4 (gone.map FC.cs)), (30, .a (strsA (wentF a b))), (31, .a (.v (.int .i64 (((wentF a b).map (fun s : ByteArray => [AV.v (.string s)])).length)))), (32, .a (.v (.int .i64 ((k : Int)))))], [⟨g2, true, .box (strsC came ++ ext)⟩, ⟨bx, true, .map (encM Value.string bts mx)⟩, ⟨by_, true, .map (encM Value.string bts my)⟩]⟩ ∧ nn0 = (wentF a b).length - k ∧ (k ≤ (wentF a b).length) ∧ (splitF a b k = (came, out, gone)) ∧ (cap = came.length + ext.length) ∧ (out.length ≤ k) ∧ (gone.length ≤ k) ∧ (came.length ≤ 1000)) ((wentF a b).length - (0)) ⟨111, [(5, .a (.cp [.v (.map (some bx))])), (6, .a (.cp [.v (.map (some by_))])), (8, .a (.v (.slice (some ⟨g2, 0, none⟩) ((wentF b a)).length cap))), (9, .own 9 4 (([]).map FC.cs)), (10, .own 10 4 (([]).map FC.cs)), (30, .a (strsA (wentF a b))), (31, .a (.v (.int .i64 (((wentF a b).map (fun s : ByteArray => [AV.v (.string s)])).length)))), (32, .a (.v (.int .i64 (((0) : Int)))))], [⟨g2, true, .box (strsC ((wentF b a)) ++ (ext))⟩, ⟨bx, true, .map (encM Value.string bts mx)⟩, ⟨by_, true, .map (encM Value.string bts my)⟩]⟩ ⟨rfl, (Slots.cons rfl (by first | exact .refl _ | exact .nilOwn _ _ | exact .nilSl _ | exact .ownSl _ _ _  | exact SV.le.of_eq (by simp)) (Slots.cons rfl (by first | exact .refl _ | exact .nilOwn _ _ | exact .nilSl _ | exact .ownSl _ _ _  | exact SV.le.of_eq (by simp)) (Slots.cons rfl (by first | exact .refl _ | exact .nilOwn _ _ | exact .nilSl _ | exact .ownSl _ _ _  | exact SV.le.of_eq (by simp)) (Slots.cons rfl (by first | exact .refl _ | exact .nilOwn _ _ | exact .nilSl _ | exact .ownSl _ _ _  | exact SV.le.of_eq (by simp)) (Slots.cons rfl (by first | exact .refl _ | exact .nilOwn _ _ | exact .nilSl _ | exact .ownSl _ _ _  | exact SV.le.of_eq (by simp)) (Slots.cons rfl (by first | exact .refl _ | exact .nilOwn _ _ | exact .nilSl _ | exact .ownSl _ _ _  | exact SV.le.of_eq (by simp)) (Slots.cons rfl (by first | exact .refl _ | exact .nilOwn _ _ | exact .nilSl _ | exact .ownSl _ _ _  | exact SV.le.of_eq (by simp)) (Slots.cons rfl (by first | exact .refl _ | exact .nilOwn _ _ | exact .nilSl _ | exact .ownSl _ _ _  | exact SV.le.of_eq (by simp)) Slots.nil)))))))), (by first | exact List.Sublist.refl _ | exact .cons_cons _ (.cons _ (.refl _)) | exact List.nil_sublist _ | exact .cons _ (.refl _) | exact .cons _ (.cons _ (.refl _)) | exact .cons _ (.cons _ (.cons _ (.refl _))) | exact .cons _ (.cons _ (.cons _ (.cons _ (.refl _)))) | exact .cons_cons _ (List.nil_sublist _))⟩ ⟨0, (wentF b a), [], [], ext, rfl, rfl, Nat.zero_le _, rfl, hcap, (by simp), (by simp), (by have := went_len b a; omega)⟩ ?_
  rintro nn0 _ ⟨k, came, out, gone, ext, rfl, rfl, hk, hst, hce, hol, hgl, hcl⟩
  refine awp_seq ?_
  refine awp_region ?_
  refine r_cmp rfl rfl rfl rfl ?_
  refine awl_nil ?_
  refine x_then ?_
  refine awp_seq ?_
  refine awp_cond rfl (fun hc0 => ?_) (fun hc0 => ?_)
  ·
   have hltx : k < (wentF a b).length := by have := of_decide_eq_true hc0; simpa using this
   obtain ⟨x, hx⟩ := get_lt hltx
   refine awp_skip ?_
   refine x_then ?_
   refine awp_seq ?_
   refine awp_block ?_
   refine awp_seq ?_
   refine awp_region ?_
   refine r_index rfl rfl rfl TF.sl54 TF.sz9 (by omega) (get_map hx) rfl ?_
   refine r_load1 rfl TF.agg9 rfl ?_
   refine r_alloc TF.zero9 rfl (fun b12 => ?_)
   refine r_store 0 rfl rfl rfl TF.sz9 rfl rfl rfl ?_
   refine awl_nil ?_
   refine x_then ?_
   refine awp_seq ?_
   refine awp_region ?_
   refine awl_imp (imp_commit 0 12 rfl rfl rfl rfl) ?_
   refine r_move rfl rfl ?_
   refine r_makeFunc rfl (.cons (.ev rfl rfl) (.cons (.ev rfl rfl) (.cons (.ev rfl rfl) .nil))) rfl ?_
   refine r_callO hq rfl rfl (.cons (.ev rfl rfl) (.cons (.ev rfl rfl) .nil)) (idxV_ok (os := [⟨bx, true, .map (encM Value.string bts mx)⟩, ⟨by_, true, .map (encM Value.string bts my)⟩]) (hitF a b x) TF.en57 (fun t => of1_ok htx hty x t) came (by omega)) rfl TF.en56 (List.Sublist.refl _) rfl (fun r nobjs hr => ?_)
   obtain ⟨rfl, rfl⟩ := hr
   refine r_assign rfl rfl ?_
   refine awl_nil ?_
   refine x_then ?_
   refine awp_seq ?_
   refine awp_seq ?_
   refine awp_region ?_
   refine r_move rfl rfl ?_
   refine r_cmp rfl rfl rfl rfl ?_
   refine awl_nil ?_
   refine x_then ?_
   refine awp_cond rfl (fun hc1 => ?_) (fun hc1 => ?_)
   ·
    have hno := optI_none (of_decide_eq_true hc1)
    refine awp_seq ?_
    refine awp_region ?_
    refine r_move rfl rfl ?_
    refine r_load1 rfl TF.agg9 rfl ?_
    refine r_build (parts := [(0, .const ((Go.Value.int Go.IntKind.i64 2))), (1, .tmp 42)]) rfl TF.pl70 TF.zero70 rfl rfl rfl ?_
    refine r_lit 44 (parts := [(0, .tmp 43)]) rfl TF.sl57 TF.sz70 TF.zraw70 rfl rfl rfl rfl rfl rfl rfl ?_
    refine r_append 10 rfl (by first | exact .own _ | exact .nil) rfl (by first | exact .sl _ | exact .own _ _ | exact .nil) TF.sl57 TF.sz70 (by decide) TF.by70 TF.zlen70 (by simp [chunks] <;> omega) (by simp [chunks] <;> omega) rfl ?_
    refine r_assign rfl rfl ?_
    refine awl_nil ?_
    refine x_then ?_
    refine awp_exit ?_
    refine x_thenE ?_
    refine x_blockE ?_
    refine x_then ?_
    refine awp_region ?_
    refine r_ari _ rfl rfl rfl (wrap_id (by first | omega | (simp; omega))) rfl ?_
    refine r_move rfl rfl ?_
    refine awl_nil ?_
    refine x_then ?_
    refine ⟨(wentF a b).length - (k + 1), ⟨111, [(5, .a (.cp [.v (.map (some bx))])), (6, .a (.cp [.v (.map (some by_))])), (8, .a (.v (.slice (some ⟨g2, 0, none⟩) (came).length cap))), (9, .own 9 4 ((out).map FC.cs)), (10, .own 10 4 ((gone ++ [(⟨2, x, E0, []⟩ : FC)]).map FC.cs)), (30, .a (strsA (wentF a b))), (31, .a (.v (.int .i64 (((wentF a b).map (fun s : ByteArray => [AV.v (.string s)])).length)))), (32, .a (.v (.int .i64 (((k + 1) : Int)))))], [⟨g2, true, .box (strsC (came) ++ (ext))⟩, ⟨bx, true, .map (encM Value.string bts mx)⟩, ⟨by_, true, .map (encM Value.string bts my)⟩]⟩, ⟨rfl, (Slots.cons rfl (by first | exact .refl _ | exact .nilOwn _ _ | exact .nilSl _ | exact .ownSl _ _ _  | exact SV.le.ownEq (by first | rfl | (rw [List.map_append]; rfl) | (simp [List.map_append]; done)) | exact SV.le.of_eq (by first | rfl | (rw [List.map_append]; rfl) | (simp [List.map_append]; done))) (Slots.cons rfl (by first | exact .refl _ | exact .nilOwn _ _ | exact .nilSl _ | exact .ownSl _ _ _  | exact SV.le.ownEq (by first | rfl | (rw [List.map_append]; rfl) | (simp [List.map_append]; done)) | exact SV.le.of_eq (by first | rfl | (rw [List.map_append]; rfl) | (simp [List.map_append]; done))) (Slots.cons rfl (by first | exact .refl _ | exact .nilOwn _ _ | exact .nilSl _ | exact .ownSl _ _ _  | exact SV.le.ownEq (by first | rfl | (rw [List.map_append]; rfl) | (simp [List.map_append]; done)) | exact SV.le.of_eq (by first | rfl | (rw [List.map_append]; rfl) | (simp [List.map_append]; done))) (Slots.cons rfl (by first | exact .refl _ | exact .nilOwn _ _ | exact .nilSl _ | exact .ownSl _ _ _  | exact SV.le.ownEq (by first | rfl | (rw [List.map_append]; rfl) | (simp [List.map_append]; done)) | exact SV.le.of_eq (by first | rfl | (rw [List.map_append]; rfl) | (simp [List.map_append]; done))) (Slots.cons rfl (by first | exact .refl _ | exact .nilOwn _ _ | exact .nilSl _ | exact .ownSl _ _ _  | exact SV.le.ownEq (by first | rfl | (rw [List.map_append]; rfl) | (simp [List.map_append]; done)) | exact SV.le.of_eq (by first | rfl | (rw [List.map_append]; rfl) | (simp [List.map_append]; done))) (Slots.cons rfl (by first | exact .refl _ | exact .nilOwn _ _ | exact .nilSl _ | exact .ownSl _ _ _  | exact SV.le.ownEq (by first | rfl | (rw [List.map_append]; rfl) | (simp [List.map_append]; done)) | exact SV.le.of_eq (by first | rfl | (rw [List.map_append]; rfl) | (simp [List.map_append]; done))) (Slots.cons rfl (by first | exact .refl _ | exact .nilOwn _ _ | exact .nilSl _ | exact .ownSl _ _ _  | exact SV.le.ownEq (by first | rfl | (rw [List.map_append]; rfl) | (simp [List.map_append]; done)) | exact SV.le.of_eq (by first | rfl | (rw [List.map_append]; rfl) | (simp [List.map_append]; done))) (Slots.cons rfl (by first | exact .refl _ | exact .nilOwn _ _ | exact .nilSl _ | exact .ownSl _ _ _  | exact SV.le.ownEq (by first | rfl | (rw [List.map_append]; rfl) | (simp [List.map_append]; done)) | exact SV.le.of_eq (by first | rfl | (rw [List.map_append]; rfl) | (simp [List.map_append]; done))) Slots.nil)))))))), (by first | exact List.Sublist.refl _ | exact .cons_cons _ (.cons _ (.refl _)) | exact List.nil_sublist _ | exact .cons _ (.refl _) | exact .cons _ (.cons _ (.refl _)) | exact .cons _ (.cons _ (.cons _ (.refl _))) | exact .cons _ (.cons _ (.cons _ (.cons _ (.refl _)))) | exact .cons_cons _ (List.nil_sublist _))⟩, (by omega), ⟨k + 1, came, out, gone ++ [(⟨2, x, E0, []⟩ : FC)], ext, rfl, rfl, (by omega), (split_none hx hst hno), hce, (by omega), (by simp; omega), hcl⟩⟩
   ·
    obtain ⟨i, hi⟩ := optI_some (o := came.findIdx? (hitF a b x)) (by have := of_decide_eq_false hc1; omega)
    have hoi : optI (came.findIdx? (hitF a b x)) = (i : Int) := by rw [hi]; rfl
    rw [hoi]
    obtain ⟨t0, ht0, _⟩ := fidx_get hi
    have hil := (List.getElem?_eq_some_iff.1 ht0).1
    refine awp_skip ?_
    refine x_then ?_
    refine awp_seq ?_
    refine awp_drawS [46, 47, 48, 49, 50, 51, 52, 53] [_, _, _, _, _, _, _, _] [] [(7, 53)] TF.mixed rfl rfl rfl ⟨⟨⟨⟨⟨⟨⟨⟨trivial
     , ⟨_, rfl, fun sl hd hr ho => by
       refine r_move (hr 9 _ rfl rfl rfl) rfl ?_
       exact awl_nil ⟨rfl, post_put⟩⟩⟩
     , ⟨_, rfl, fun sl hd hr ho => by
       refine r_load1 (hr 12 _ rfl rfl rfl) TF.agg9 rfl ?_
       exact awl_nil ⟨rfl, post_put⟩⟩⟩
     , ⟨_, rfl, fun sl hd hr ho => by
       refine r_move (hr 8 _ rfl rfl rfl) rfl ?_
       exact awl_nil ⟨rfl, post_put⟩⟩⟩
     , ⟨_, rfl, fun sl hd hr ho => by
       refine r_move (hr 13 _ rfl rfl rfl) rfl ?_
       exact awl_nil ⟨rfl, post_put⟩⟩⟩
     , ⟨_, rfl, fun sl hd hr ho => by
       refine r_indexV (hd 2 _ rfl rfl rfl) (hd 3 _ rfl rfl rfl) TF.sl54 TF.sz9 (by omega) (by omega) rfl ?_
       exact awl_nil ⟨rfl, post_put⟩⟩⟩
     , ⟨_, rfl, fun sl hd hr ho => by
       refine r_load1b 0 (hd 4 _ rfl rfl rfl) rfl (str_at ht0) TF.agg9 rfl ?_
       exact awl_nil ⟨rfl, post_put⟩⟩⟩
     , ⟨_, rfl, fun sl hd hr ho => by
       refine r_build (parts := [(0, .const ((Go.Value.int Go.IntKind.i64 4))), (1, .tmp 47), (2, .tmp 51)]) rfl TF.pl70 TF.zero70 (parts_cons rfl (parts_cons (hd 1 _ rfl rfl rfl) (parts_cons (hd 5 _ rfl rfl rfl) parts_nil))) rfl rfl ?_
       exact awl_nil ⟨rfl, post_put⟩⟩⟩
     , ⟨_, rfl, fun sl hd hr ho => by
       refine r_lit 53 (parts := [(0, .tmp 52)]) rfl TF.sl57 TF.sz70 TF.zraw70 rfl rfl (parts_cons (hd 6 _ rfl rfl rfl) parts_nil) rfl rfl rfl rfl ?_
       exact awl_nil ⟨rfl, (post_dem (ho 53 (List.mem_of_elem_eq_true rfl)))⟩⟩⟩
     (by rfl) ?_
    refine r_append 9 rfl (by first | exact .own _ | exact .nil) rfl (by first | exact .sl _ | exact .own _ _ | exact .nil) TF.sl57 TF.sz70 (by decide) TF.by70 TF.zlen70 (by simp [chunks] <;> omega) (by simp [chunks] <;> omega) rfl ?_
    refine r_assign rfl rfl ?_
    refine awl_nil ?_
    refine x_then ?_
    refine awp_region ?_
    refine r_move rfl rfl ?_
    refine r_move rfl rfl ?_
    refine r_move rfl rfl ?_
    refine r_ari _ rfl rfl rfl (wrap_id (by first | omega | (simp; omega))) rfl ?_
    refine r_callW hq [true, false, false] rfl rfl (.cons (.ev rfl rfl) (.cons (.ev rfl rfl) (.cons (.ev rfl rfl) .nil))) (delete_ok came i hil (by omega) hce) rfl TF.en58 rfl rfl (List.nil_sublist _) rfl (fun r nobjs hr => ?_)
    obtain ⟨ext', hce', rfl, rfl⟩ := hr
    refine r_assign rfl rfl ?_
    refine awl_nil ?_
    refine x_block ?_
    refine x_then ?_
    refine awp_region ?_
    refine r_ari _ rfl rfl rfl (wrap_id (by first | omega | (simp; omega))) rfl ?_
    refine r_move rfl rfl ?_
    refine awl_nil ?_
    refine x_then ?_
    refine ⟨(wentF a b).length - (k + 1), ⟨111, [(5, .a (.cp [.v (.map (some bx))])), (6, .a (.cp [.v (.map (some by_))])), (8, .a (.v (.slice (some ⟨g2, 0, none⟩) ((came.eraseIdx i)).length cap))), (9, .own 9 4 ((out ++ [(⟨4, x, t0, []⟩ : FC)]).map FC.cs)), (10, .own 10 4 ((gone).map FC.cs)), (30, .a (strsA (wentF a b))), (31, .a (.v (.int .i64 (((wentF a b).map (fun s : ByteArray => [AV.v (.string s)])).length)))), (32, .a (.v (.int .i64 (((k + 1) : Int)))))], [⟨g2, true, .box (strsC ((came.eraseIdx i)) ++ (ext'))⟩, ⟨bx, true, .map (encM Value.string bts mx)⟩, ⟨by_, true, .map (encM Value.string bts my)⟩]⟩, ⟨rfl, (Slots.cons rfl (by first | exact .refl _ | exact .nilOwn _ _ | exact .nilSl _ | exact .ownSl _ _ _  | exact SV.le.ownEq (by first | rfl | (rw [List.map_append]; rfl) | (simp [List.map_append]; done)) | exact SV.le.of_eq (by first | rfl | (rw [List.map_append]; rfl) | (simp [List.map_append]; done))) (Slots.cons rfl (by first | exact .refl _ | exact .nilOwn _ _ | exact .nilSl _ | exact .ownSl _ _ _  | exact SV.le.ownEq (by first | rfl | (rw [List.map_append]; rfl) | (simp [List.map_append]; done)) | exact SV.le.of_eq (by first | rfl | (rw [List.map_append]; rfl) | (simp [List.map_append]; done))) (Slots.cons rfl (by first | exact .refl _ | exact .nilOwn _ _ | exact .nilSl _ | exact .ownSl _ _ _  | exact SV.le.ownEq (by first | rfl | (rw [List.map_append]; rfl) | (simp [List.map_append]; done)) | exact SV.le.of_eq (by first | rfl | (rw [List.map_append]; rfl) | (simp [List.map_append]; done))) (Slots.cons rfl (by first | exact .refl _ | exact .nilOwn _ _ | exact .nilSl _ | exact .ownSl _ _ _  | exact SV.le.ownEq (by first | rfl | (rw [List.map_append]; rfl) | (simp [List.map_append]; done)) | exact SV.le.of_eq (by first | rfl | (rw [List.map_append]; rfl) | (simp [List.map_append]; done))) (Slots.cons rfl (by first | exact .refl _ | exact .nilOwn _ _ | exact .nilSl _ | exact .ownSl _ _ _  | exact SV.le.ownEq (by first | rfl | (rw [List.map_append]; rfl) | (simp [List.map_append]; done)) | exact SV.le.of_eq (by first | rfl | (rw [List.map_append]; rfl) | (simp [List.map_append]; done))) (Slots.cons rfl (by first | exact .refl _ | exact .nilOwn _ _ | exact .nilSl _ | exact .ownSl _ _ _  | exact SV.le.ownEq (by first | rfl | (rw [List.map_append]; rfl) | (simp [List.map_append]; done)) | exact SV.le.of_eq (by first | rfl | (rw [List.map_append]; rfl) | (simp [List.map_append]; done))) (Slots.cons rfl (by first | exact .refl _ | exact .nilOwn _ _ | exact .nilSl _ | exact .ownSl _ _ _  | exact SV.le.ownEq (by first | rfl | (rw [List.map_append]; rfl) | (simp [List.map_append]; done)) | exact SV.le.of_eq (by first | rfl | (rw [List.map_append]; rfl) | (simp [List.map_append]; done))) (Slots.cons rfl (by first | exact .refl _ | exact .nilOwn _ _ | exact .nilSl _ | exact .ownSl _ _ _  | exact SV.le.ownEq (by first | rfl | (rw [List.map_append]; rfl) | (simp [List.map_append]; done)) | exact SV.le.of_eq (by first | rfl | (rw [List.map_append]; rfl) | (simp [List.map_append]; done))) Slots.nil)))))))), (by first | exact List.Sublist.refl _ | exact .cons_cons _ (.cons _ (.refl _)) | exact List.nil_sublist _ | exact .cons _ (.refl _) | exact .cons _ (.cons _ (.refl _)) | exact .cons _ (.cons _ (.cons _ (.refl _))) | exact .cons _ (.cons _ (.cons _ (.cons _ (.refl _)))) | exact .cons_cons _ (List.nil_sublist _))⟩, (by omega), ⟨k + 1, (came.eraseIdx i), out ++ [(⟨4, x, t0, []⟩ : FC)], gone, ext', rfl, rfl, (by omega), (split_some hx hst hi ht0), hce', (by simp; omega), (by omega), (by rw [List.length_eraseIdx]; split <;> omega)⟩⟩
  ·
   have hge : (wentF a b).length ≤ k := by have := of_decide_eq_false hc0; simp at this; omega
   obtain rfl : k = (wentF a b).length := by omega
   refine awp_exit ?_
   refine x_thenE ?_
   refine x_thenE ?_
   refine x_blockE ?_
   refine x_then ?_
   refine awp_seq ?_
   refine awp_region ?_
   refine r_move rfl rfl ?_
   refine r_move rfl rfl ?_
   refine r_append 9 rfl (by first | exact .own _ | exact .nil) rfl (by first | exact .sl _ | exact .own _ _ | exact .nil) TF.sl57 TF.sz70 (by decide) TF.by70 TF.zlen70 (by simp [chunks] <;> omega) (by simp [chunks] <;> omega) rfl ?_
   refine r_assign rfl rfl ?_
   refine awl_nil ?_
   refine x_then ?_
   refine awp_seq ?_
   refine awp_seq ?_
   refine awp_region ?_
   refine r_load1 rfl TF.agg109 rfl ?_
   refine r_callO hq rfl rfl (.cons (.ev rfl rfl) .nil) (orderN_ok htx hnsa (by omega)) rfl TF.en59 (.cons _ (.cons_cons _ (List.nil_sublist _))) rfl (fun r nobjs hr => ?_)
   obtain ⟨rfl, rfl⟩ := hr
   refine r_lenS rfl rfl TF.sl54 rfl ?_
   refine r_move rfl rfl ?_
   refine awl_nil ?_
   refine x_then ?_
   refine awp_block ?_
   refine awp_loop (fun nn0 S => ∃ k : Nat, S = ⟨111, [(5, .a (.cp [.v (.map (some bx))])), (6, .a (.cp [.v (.map (some by_))])), (8, .a (.v (.slice (some ⟨g2, 0, none⟩) came.length cap))), (9, .own 9 4 (((out ++ gone) ++ ((namesF a).take k).filterMap (chgF a b)).map FC.cs)), (65, .a (strsA (namesF a))), (66, .a (.v (.int .i64 (((namesF a).map (fun s : ByteArray => [AV.v (.string s)])).length)))), (67, .a (.v (.int .i64 ((k : Int)))))], [⟨g2, true, .box (strsC came ++ ext)⟩, ⟨bx, true, .map (encM Value.string bts mx)⟩, ⟨by_, true, .map (encM Value.string bts my)⟩]⟩ ∧ nn0 = (namesF a).length - k ∧ (k ≤ (namesF a).length)) ((namesF a).length - (0)) ⟨111, [(5, .a (.cp [.v (.map (some bx))])), (6, .a (.cp [.v (.map (some by_))])), (8, .a (.v (.slice (some ⟨g2, 0, none⟩) came.length cap))), (9, .own 9 4 (((out ++ gone) ++ ((namesF a).take (0)).filterMap (chgF a b)).map FC.cs)), (65, .a (strsA (namesF a))), (66, .a (.v (.int .i64 (((namesF a).map (fun s : ByteArray => [AV.v (.string s)])).length)))), (67, .a (.v (.int .i64 (((0) : Int)))))], [⟨g2, true, .box (strsC came ++ ext)⟩, ⟨bx, true, .map (encM Value.string bts mx)⟩, ⟨by_, true, .map (encM Value.string bts my)⟩]⟩ ⟨rfl, (Slots.cons rfl (by first | exact .refl _ | exact .nilOwn _ _ | exact .nilSl _ | exact .ownSl _ _ _  | exact SV.le.ownEq (by simp [chunks]) | exact SV.le.of_eq (by simp [chunks])) (Slots.cons rfl (by first | exact .refl _ | exact .nilOwn _ _ | exact .nilSl _ | exact .ownSl _ _ _  | exact SV.le.ownEq (by simp [chunks]) | exact SV.le.of_eq (by simp [chunks])) (Slots.cons rfl (by first | exact .refl _ | exact .nilOwn _ _ | exact .nilSl _ | exact .ownSl _ _ _  | exact SV.le.ownEq (by simp [chunks]) | exact SV.le.of_eq (by simp [chunks])) (Slots.cons rfl (by first | exact .refl _ | exact .nilOwn _ _ | exact .nilSl _ | exact .ownSl _ _ _  | exact SV.le.ownEq (by simp [chunks]) | exact SV.le.of_eq (by simp [chunks])) (Slots.cons rfl (by first | exact .refl _ | exact .nilOwn _ _ | exact .nilSl _ | exact .ownSl _ _ _  | exact SV.le.ownEq (by simp [chunks]) | exact SV.le.of_eq (by simp [chunks])) (Slots.cons rfl (by first | exact .refl _ | exact .nilOwn _ _ | exact .nilSl _ | exact .ownSl _ _ _  | exact SV.le.ownEq (by simp [chunks]) | exact SV.le.of_eq (by simp [chunks])) (Slots.cons rfl (by first | exact .refl _ | exact .nilOwn _ _ | exact .nilSl _ | exact .ownSl _ _ _  | exact SV.le.ownEq (by simp [chunks]) | exact SV.le.of_eq (by simp [chunks])) Slots.nil))))))), (by first | exact List.Sublist.refl _ | exact .cons_cons _ (.cons _ (.refl _)) | exact List.nil_sublist _ | exact .cons _ (.refl _) | exact .cons _ (.cons _ (.refl _)) | exact .cons _ (.cons _ (.cons _ (.refl _))) | exact .cons _ (.cons _ (.cons _ (.cons _ (.refl _)))) | exact .cons_cons _ (List.nil_sublist _))⟩ ⟨0, rfl, rfl, Nat.zero_le _⟩ ?_
   rintro nn0 _ ⟨k, rfl, rfl, hk1⟩
   refine awp_seq ?_
   refine awp_region ?_
   refine r_cmp rfl rfl rfl rfl ?_
   refine awl_nil ?_
   refine x_then ?_
   refine awp_seq ?_
   refine awp_cond rfl (fun hc2 => ?_) (fun hc2 => ?_)
   ·
    have hltx : k < (namesF a).length := by have := of_decide_eq_true hc2; simpa using this
    obtain ⟨x, hx⟩ := get_lt hltx
    have hf1 : (((namesF a).take k).filterMap (chgF a b)).length ≤ k := Nat.le_trans (List.length_filterMap_le _ _) (by simp; omega)
    refine awp_skip ?_
    refine x_then ?_
    refine awp_seq ?_
    refine awp_block ?_
    refine awp_seq ?_
    refine awp_region ?_
    refine r_index rfl rfl rfl TF.sl54 TF.sz9 (by omega) (get_map hx) rfl ?_
    refine r_load1 rfl TF.agg9 rfl ?_
    refine r_assign rfl rfl ?_
    refine awl_nil ?_
    refine x_then ?_
    refine awp_seq ?_
    refine awp_region ?_
    refine r_load1 rfl TF.agg109 rfl ?_
    refine r_move rfl rfl ?_
    refine r_lookupOk 2 (keyEnc_string TF.un9) (ev := bts) [] rfl rfl rfl TF.map109 TF.zavS rfl ?_
    refine r_move rfl rfl ?_
    refine r_extract rfl rfl rfl ?_
    refine r_extract rfl rfl rfl ?_
    refine r_assign rfl rfl ?_
    refine r_assign rfl rfl ?_
    refine awl_nil ?_
    refine x_then ?_
    refine awp_seq ?_
    refine awp_region ?_
    refine r_move rfl rfl ?_
    refine r_move rfl rfl ?_
    refine g_cases (t' := 78) rfl (fun hg78 => ?_) (fun hg78 => ?_)
    ·
     obtain ⟨d, hdq⟩ : ∃ d, mget my x = some d := Option.isSome_iff_exists.1 hg78
     have hq2 : lookF b x = some d := by rw [← hty.get, hdq]
     refine g_run rfl rfl hg78 ?_
     refine r_load1 rfl TF.agg109 rfl ?_
     refine g_run rfl rfl hg78 ?_
     refine r_move rfl rfl ?_
     refine g_run rfl rfl hg78 ?_
     refine r_lookup 1 (keyEnc_string TF.un9) (ev := bts) [] rfl rfl rfl TF.map109 TF.zavS rfl ?_
     refine g_run rfl rfl hg78 ?_
     refine r_move rfl rfl ?_
     refine g_run rfl rfl hg78 ?_
     refine r_call0 hq rfl rfl (.cons (.ev rfl rfl) (.cons (.ev rfl rfl) .nil)) (equal_ok _ _) rfl TF.en35 rfl (fun r hr => ?_)
     obtain rfl := hr
     refine g_run rfl rfl hg78 ?_
     refine r_not rfl rfl ?_
     refine r_pickT rfl hg78 rfl rfl ?_
     refine awl_nil ?_
     refine x_then ?_
     refine awp_cond rfl (fun hc3 => ?_) (fun hc3 => ?_)
     ·
      rw [hdq] at hc3 ⊢
      have hne : decide ((lookF a x).getD [] = d) = false := by rw [← htx.get]; simpa using hc3
      have ht : chgF a b x = some ⟨3, x, E0, d⟩ := by rw [chgF, hq2]; simp only [hne, cond_false]
      have hdl : d.length ≤ 1000000 := by have := look_len hdb x; rw [hq2] at this; simpa using this
      refine awp_region ?_
      refine r_move rfl rfl ?_
      refine r_move rfl rfl ?_
      refine r_move rfl rfl ?_
      refine r_call0 hq rfl rfl (.cons (.ev rfl rfl) .nil) (clone_ok d hdl) rfl TF.en47 rfl (fun r hr => ?_)
      obtain rfl := hr
      refine r_build (parts := [(0, .const ((Go.Value.int Go.IntKind.i64 3))), (1, .tmp 87), (3, .tmp 89)]) rfl TF.pl70 TF.zero70 rfl rfl rfl ?_
      refine r_lit 91 (parts := [(0, .tmp 90)]) rfl TF.sl57 TF.sz70 TF.zraw70 rfl rfl rfl rfl rfl rfl rfl ?_
      refine r_append 9 rfl (by first | exact .own _ | exact .nil) rfl (by first | exact .sl _ | exact .own _ _ | exact .nil) TF.sl57 TF.sz70 (by decide) TF.by70 TF.zlen70 (by simp [chunks] <;> omega) (by simp [chunks] <;> omega) rfl ?_
      refine r_assign rfl rfl ?_
      refine awl_nil ?_
      refine x_block ?_
      refine x_then ?_
      refine awp_region ?_
      refine r_ari _ rfl rfl rfl (wrap_id (by first | omega | (simp; omega))) rfl ?_
      refine r_move rfl rfl ?_
      refine awl_nil ?_
      refine x_then ?_
      have et := fmS_step (f := chgF a b) hx
      rw [ht] at et
      simp only [Option.toList_some, Option.toList_none, List.append_nil] at et
      refine ⟨(namesF a).length - (k + 1), ⟨111, [(5, .a (.cp [.v (.map (some bx))])), (6, .a (.cp [.v (.map (some by_))])), (8, .a (.v (.slice (some ⟨g2, 0, none⟩) came.length cap))), (9, .own 9 4 (((out ++ gone) ++ ((namesF a).take (k + 1)).filterMap (chgF a b)).map FC.cs)), (65, .a (strsA (namesF a))), (66, .a (.v (.int .i64 (((namesF a).map (fun s : ByteArray => [AV.v (.string s)])).length)))), (67, .a (.v (.int .i64 (((k + 1) : Int)))))], [⟨g2, true, .box (strsC came ++ ext)⟩, ⟨bx, true, .map (encM Value.string bts mx)⟩, ⟨by_, true, .map (encM Value.string bts my)⟩]⟩, ⟨rfl, (Slots.cons rfl (by first | exact .refl _ | exact .nilOwn _ _ | exact .nilSl _ | exact .ownSl _ _ _  | exact SV.le.ownEq (by first | rfl | (rw [et, ← List.append_assoc (out ++ gone), List.map_append (l₁ := ((out ++ gone) ++ ((namesF a).take k).filterMap (chgF a b)))]; rfl) | (rw [et]; first | done | rfl)) | exact SV.le.of_eq (by first | rfl | (rw [et, ← List.append_assoc (out ++ gone), List.map_append (l₁ := ((out ++ gone) ++ ((namesF a).take k).filterMap (chgF a b)))]; rfl) | (rw [et]; first | done | rfl))) (Slots.cons rfl (by first | exact .refl _ | exact .nilOwn _ _ | exact .nilSl _ | exact .ownSl _ _ _  | exact SV.le.ownEq (by first | rfl | (rw [et, ← List.append_assoc (out ++ gone), List.map_append (l₁ := ((out ++ gone) ++ ((namesF a).take k).filterMap (chgF a b)))]; rfl) | (rw [et]; first | done | rfl)) | exact SV.le.of_eq (by first | rfl | (rw [et, ← List.append_assoc (out ++ gone), List.map_append (l₁ := ((out ++ gone) ++ ((namesF a).take k).filterMap (chgF a b)))]; rfl) | (rw [et]; first | done | rfl))) (Slots.cons rfl (by first | exact .refl _ | exact .nilOwn _ _ | exact .nilSl _ | exact .ownSl _ _ _  | exact SV.le.ownEq (by first | rfl | (rw [et, ← List.append_assoc (out ++ gone), List.map_append (l₁ := ((out ++ gone) ++ ((namesF a).take k).filterMap (chgF a b)))]; rfl) | (rw [et]; first | done | rfl)) | exact SV.le.of_eq (by first | rfl | (rw [et, ← List.append_assoc (out ++ gone), List.map_append (l₁ := ((out ++ gone) ++ ((namesF a).take k).filterMap (chgF a b)))]; rfl) | (rw [et]; first | done | rfl))) (Slots.cons rfl (by first | exact .refl _ | exact .nilOwn _ _ | exact .nilSl _ | exact .ownSl _ _ _  | exact SV.le.ownEq (by first | rfl | (rw [et, ← List.append_assoc (out ++ gone), List.map_append (l₁ := ((out ++ gone) ++ ((namesF a).take k).filterMap (chgF a b)))]; rfl) | (rw [et]; first | done | rfl)) | exact SV.le.of_eq (by first | rfl | (rw [et, ← List.append_assoc (out ++ gone), List.map_append (l₁ := ((out ++ gone) ++ ((namesF a).take k).filterMap (chgF a b)))]; rfl) | (rw [et]; first | done | rfl))) (Slots.cons rfl (by first | exact .refl _ | exact .nilOwn _ _ | exact .nilSl _ | exact .ownSl _ _ _  | exact SV.le.ownEq (by first | rfl | (rw [et, ← List.append_assoc (out ++ gone), List.map_append (l₁ := ((out ++ gone) ++ ((namesF a).take k).filterMap (chgF a b)))]; rfl) | (rw [et]; first | done | rfl)) | exact SV.le.of_eq (by first | rfl | (rw [et, ← List.append_assoc (out ++ gone), List.map_append (l₁ := ((out ++ gone) ++ ((namesF a).take k).filterMap (chgF a b)))]; rfl) | (rw [et]; first | done | rfl))) (Slots.cons rfl (by first | exact .refl _ | exact .nilOwn _ _ | exact .nilSl _ | exact .ownSl _ _ _  | exact SV.le.ownEq (by first | rfl | (rw [et, ← List.append_assoc (out ++ gone), List.map_append (l₁ := ((out ++ gone) ++ ((namesF a).take k).filterMap (chgF a b)))]; rfl) | (rw [et]; first | done | rfl)) | exact SV.le.of_eq (by first | rfl | (rw [et, ← List.append_assoc (out ++ gone), List.map_append (l₁ := ((out ++ gone) ++ ((namesF a).take k).filterMap (chgF a b)))]; rfl) | (rw [et]; first | done | rfl))) (Slots.cons rfl (by first | exact .refl _ | exact .nilOwn _ _ | exact .nilSl _ | exact .ownSl _ _ _  | exact SV.le.ownEq (by first | rfl | (rw [et, ← List.append_assoc (out ++ gone), List.map_append (l₁ := ((out ++ gone) ++ ((namesF a).take k).filterMap (chgF a b)))]; rfl) | (rw [et]; first | done | rfl)) | exact SV.le.of_eq (by first | rfl | (rw [et, ← List.append_assoc (out ++ gone), List.map_append (l₁ := ((out ++ gone) ++ ((namesF a).take k).filterMap (chgF a b)))]; rfl) | (rw [et]; first | done | rfl))) Slots.nil))))))), (by first | exact List.Sublist.refl _ | exact .cons_cons _ (.cons _ (.refl _)) | exact List.nil_sublist _ | exact .cons _ (.refl _) | exact .cons _ (.cons _ (.refl _)) | exact .cons _ (.cons _ (.cons _ (.refl _))) | exact .cons _ (.cons _ (.cons _ (.cons _ (.refl _)))) | exact .cons_cons _ (List.nil_sublist _))⟩, (by omega), ⟨k + 1, rfl, rfl, (by omega)⟩⟩
     ·
      rw [hdq] at hc3
      have hne : decide ((lookF a x).getD [] = d) = true := by rw [← htx.get]; simpa using hc3
      have ht : chgF a b x = none := by rw [chgF, hq2]; simp only [hne, cond_true]
      refine awp_skip ?_
      refine x_block ?_
      refine x_then ?_
      refine awp_region ?_
      refine r_ari _ rfl rfl rfl (wrap_id (by first | omega | (simp; omega))) rfl ?_
      refine r_move rfl rfl ?_
      refine awl_nil ?_
      refine x_then ?_
      have et := fmS_step (f := chgF a b) hx
      rw [ht] at et
      simp only [Option.toList_some, Option.toList_none, List.append_nil] at et
      refine ⟨(namesF a).length - (k + 1), ⟨111, [(5, .a (.cp [.v (.map (some bx))])), (6, .a (.cp [.v (.map (some by_))])), (8, .a (.v (.slice (some ⟨g2, 0, none⟩) came.length cap))), (9, .own 9 4 (((out ++ gone) ++ ((namesF a).take (k + 1)).filterMap (chgF a b)).map FC.cs)), (65, .a (strsA (namesF a))), (66, .a (.v (.int .i64 (((namesF a).map (fun s : ByteArray => [AV.v (.string s)])).length)))), (67, .a (.v (.int .i64 (((k + 1) : Int)))))], [⟨g2, true, .box (strsC came ++ ext)⟩, ⟨bx, true, .map (encM Value.string bts mx)⟩, ⟨by_, true, .map (encM Value.string bts my)⟩]⟩, ⟨rfl, (Slots.cons rfl (by first | exact .refl _ | exact .nilOwn _ _ | exact .nilSl _ | exact .ownSl _ _ _  | exact SV.le.ownEq (by first | rfl | (rw [et, ← List.append_assoc (out ++ gone), List.map_append (l₁ := ((out ++ gone) ++ ((namesF a).take k).filterMap (chgF a b)))]; rfl) | (rw [et]; first | done | rfl)) | exact SV.le.of_eq (by first | rfl | (rw [et, ← List.append_assoc (out ++ gone), List.map_append (l₁ := ((out ++ gone) ++ ((namesF a).take k).filterMap (chgF a b)))]; rfl) | (rw [et]; first | done | rfl))) (Slots.cons rfl (by first | exact .refl _ | exact .nilOwn _ _ | exact .nilSl _ | exact .ownSl _ _ _  | exact SV.le.ownEq (by first | rfl | (rw [et, ← List.append_assoc (out ++ gone), List.map_append (l₁ := ((out ++ gone) ++ ((namesF a).take k).filterMap (chgF a b)))]; rfl) | (rw [et]; first | done | rfl)) | exact SV.le.of_eq (by first | rfl | (rw [et, ← List.append_assoc (out ++ gone), List.map_append (l₁ := ((out ++ gone) ++ ((namesF a).take k).filterMap (chgF a b)))]; rfl) | (rw [et]; first | done | rfl))) (Slots.cons rfl (by first | exact .refl _ | exact .nilOwn _ _ | exact .nilSl _ | exact .ownSl _ _ _  | exact SV.le.ownEq (by first | rfl | (rw [et, ← List.append_assoc (out ++ gone), List.map_append (l₁ := ((out ++ gone) ++ ((namesF a).take k).filterMap (chgF a b)))]; rfl) | (rw [et]; first | done | rfl)) | exact SV.le.of_eq (by first | rfl | (rw [et, ← List.append_assoc (out ++ gone), List.map_append (l₁ := ((out ++ gone) ++ ((namesF a).take k).filterMap (chgF a b)))]; rfl) | (rw [et]; first | done | rfl))) (Slots.cons rfl (by first | exact .refl _ | exact .nilOwn _ _ | exact .nilSl _ | exact .ownSl _ _ _  | exact SV.le.ownEq (by first | rfl | (rw [et, ← List.append_assoc (out ++ gone), List.map_append (l₁ := ((out ++ gone) ++ ((namesF a).take k).filterMap (chgF a b)))]; rfl) | (rw [et]; first | done | rfl)) | exact SV.le.of_eq (by first | rfl | (rw [et, ← List.append_assoc (out ++ gone), List.map_append (l₁ := ((out ++ gone) ++ ((namesF a).take k).filterMap (chgF a b)))]; rfl) | (rw [et]; first | done | rfl))) (Slots.cons rfl (by first | exact .refl _ | exact .nilOwn _ _ | exact .nilSl _ | exact .ownSl _ _ _  | exact SV.le.ownEq (by first | rfl | (rw [et, ← List.append_assoc (out ++ gone), List.map_append (l₁ := ((out ++ gone) ++ ((namesF a).take k).filterMap (chgF a b)))]; rfl) | (rw [et]; first | done | rfl)) | exact SV.le.of_eq (by first | rfl | (rw [et, ← List.append_assoc (out ++ gone), List.map_append (l₁ := ((out ++ gone) ++ ((namesF a).take k).filterMap (chgF a b)))]; rfl) | (rw [et]; first | done | rfl))) (Slots.cons rfl (by first | exact .refl _ | exact .nilOwn _ _ | exact .nilSl _ | exact .ownSl _ _ _  | exact SV.le.ownEq (by first | rfl | (rw [et, ← List.append_assoc (out ++ gone), List.map_append (l₁ := ((out ++ gone) ++ ((namesF a).take k).filterMap (chgF a b)))]; rfl) | (rw [et]; first | done | rfl)) | exact SV.le.of_eq (by first | rfl | (rw [et, ← List.append_assoc (out ++ gone), List.map_append (l₁ := ((out ++ gone) ++ ((namesF a).take k).filterMap (chgF a b)))]; rfl) | (rw [et]; first | done | rfl))) (Slots.cons rfl (by first | exact .refl _ | exact .nilOwn _ _ | exact .nilSl _ | exact .ownSl _ _ _  | exact SV.le.ownEq (by first | rfl | (rw [et, ← List.append_assoc (out ++ gone), List.map_append (l₁ := ((out ++ gone) ++ ((namesF a).take k).filterMap (chgF a b)))]; rfl) | (rw [et]; first | done | rfl)) | exact SV.le.of_eq (by first | rfl | (rw [et, ← List.append_assoc (out ++ gone), List.map_append (l₁ := ((out ++ gone) ++ ((namesF a).take k).filterMap (chgF a b)))]; rfl) | (rw [et]; first | done | rfl))) Slots.nil))))))), (by first | exact List.Sublist.refl _ | exact .cons_cons _ (.cons _ (.refl _)) | exact List.nil_sublist _ | exact .cons _ (.refl _) | exact .cons _ (.cons _ (.refl _)) | exact .cons _ (.cons _ (.cons _ (.refl _))) | exact .cons _ (.cons _ (.cons _ (.cons _ (.refl _)))) | exact .cons_cons _ (List.nil_sublist _))⟩, (by omega), ⟨k + 1, rfl, rfl, (by omega)⟩⟩
    ·
     have hq2 : lookF b x = none := by
      rw [← hty.get]
      cases h : mget my x with
      | none => rfl
      | some d => rw [h] at hg78; cases hg78
     have ht : chgF a b x = none := by rw [chgF, hq2]
     refine g_skip rfl rfl hg78 rfl ?_
     refine g_skip rfl rfl hg78 rfl ?_
     refine g_skip rfl rfl hg78 rfl ?_
     refine g_skip rfl rfl hg78 rfl ?_
     refine g_skip rfl rfl hg78 rfl ?_
     refine g_skip rfl rfl hg78 rfl ?_
     refine r_pickF rfl hg78 rfl rfl ?_
     refine awl_nil ?_
     refine x_then ?_
     refine awp_condF rfl ?_
     refine awp_skip ?_
     refine x_block ?_
     refine x_then ?_
     refine awp_region ?_
     refine r_ari _ rfl rfl rfl (wrap_id (by first | omega | (simp; omega))) rfl ?_
     refine r_move rfl rfl ?_
     refine awl_nil ?_
     refine x_then ?_
     have et := fmS_step (f := chgF a b) hx
     rw [ht] at et
     simp only [Option.toList_some, Option.toList_none, List.append_nil] at et
     refine ⟨(namesF a).length - (k + 1), ⟨111, [(5, .a (.cp [.v (.map (some bx))])), (6, .a (.cp [.v (.map (some by_))])), (8, .a (.v (.slice (some ⟨g2, 0, none⟩) came.length cap))), (9, .own 9 4 (((out ++ gone) ++ ((namesF a).take (k + 1)).filterMap (chgF a b)).map FC.cs)), (65, .a (strsA (namesF a))), (66, .a (.v (.int .i64 (((namesF a).map (fun s : ByteArray => [AV.v (.string s)])).length)))), (67, .a (.v (.int .i64 (((k + 1) : Int)))))], [⟨g2, true, .box (strsC came ++ ext)⟩, ⟨bx, true, .map (encM Value.string bts mx)⟩, ⟨by_, true, .map (encM Value.string bts my)⟩]⟩, ⟨rfl, (Slots.cons rfl (by first | exact .refl _ | exact .nilOwn _ _ | exact .nilSl _ | exact .ownSl _ _ _  | exact SV.le.ownEq (by first | rfl | (rw [et, ← List.append_assoc (out ++ gone), List.map_append (l₁ := ((out ++ gone) ++ ((namesF a).take k).filterMap (chgF a b)))]; rfl) | (rw [et]; first | done | rfl)) | exact SV.le.of_eq (by first | rfl | (rw [et, ← List.append_assoc (out ++ gone), List.map_append (l₁ := ((out ++ gone) ++ ((namesF a).take k).filterMap (chgF a b)))]; rfl) | (rw [et]; first | done | rfl))) (Slots.cons rfl (by first | exact .refl _ | exact .nilOwn _ _ | exact .nilSl _ | exact .ownSl _ _ _  | exact SV.le.ownEq (by first | rfl | (rw [et, ← List.append_assoc (out ++ gone), List.map_append (l₁ := ((out ++ gone) ++ ((namesF a).take k).filterMap (chgF a b)))]; rfl) | (rw [et]; first | done | rfl)) | exact SV.le.of_eq (by first | rfl | (rw [et, ← List.append_assoc (out ++ gone), List.map_append (l₁ := ((out ++ gone) ++ ((namesF a).take k).filterMap (chgF a b)))]; rfl) | (rw [et]; first | done | rfl))) (Slots.cons rfl (by first | exact .refl _ | exact .nilOwn _ _ | exact .nilSl _ | exact .ownSl _ _ _  | exact SV.le.ownEq (by first | rfl | (rw [et, ← List.append_assoc (out ++ gone), List.map_append (l₁ := ((out ++ gone) ++ ((namesF a).take k).filterMap (chgF a b)))]; rfl) | (rw [et]; first | done | rfl)) | exact SV.le.of_eq (by first | rfl | (rw [et, ← List.append_assoc (out ++ gone), List.map_append (l₁ := ((out ++ gone) ++ ((namesF a).take k).filterMap (chgF a b)))]; rfl) | (rw [et]; first | done | rfl))) (Slots.cons rfl (by first | exact .refl _ | exact .nilOwn _ _ | exact .nilSl _ | exact .ownSl _ _ _  | exact SV.le.ownEq (by first | rfl | (rw [et, ← List.append_assoc (out ++ gone), List.map_append (l₁ := ((out ++ gone) ++ ((namesF a).take k).filterMap (chgF a b)))]; rfl) | (rw [et]; first | done | rfl)) | exact SV.le.of_eq (by first | rfl | (rw [et, ← List.append_assoc (out ++ gone), List.map_append (l₁ := ((out ++ gone) ++ ((namesF a).take k).filterMap (chgF a b)))]; rfl) | (rw [et]; first | done | rfl))) (Slots.cons rfl (by first | exact .refl _ | exact .nilOwn _ _ | exact .nilSl _ | exact .ownSl _ _ _  | exact SV.le.ownEq (by first | rfl | (rw [et, ← List.append_assoc (out ++ gone), List.map_append (l₁ := ((out ++ gone) ++ ((namesF a).take k).filterMap (chgF a b)))]; rfl) | (rw [et]; first | done | rfl)) | exact SV.le.of_eq (by first | rfl | (rw [et, ← List.append_assoc (out ++ gone), List.map_append (l₁ := ((out ++ gone) ++ ((namesF a).take k).filterMap (chgF a b)))]; rfl) | (rw [et]; first | done | rfl))) (Slots.cons rfl (by first | exact .refl _ | exact .nilOwn _ _ | exact .nilSl _ | exact .ownSl _ _ _  | exact SV.le.ownEq (by first | rfl | (rw [et, ← List.append_assoc (out ++ gone), List.map_append (l₁ := ((out ++ gone) ++ ((namesF a).take k).filterMap (chgF a b)))]; rfl) | (rw [et]; first | done | rfl)) | exact SV.le.of_eq (by first | rfl | (rw [et, ← List.append_assoc (out ++ gone), List.map_append (l₁ := ((out ++ gone) ++ ((namesF a).take k).filterMap (chgF a b)))]; rfl) | (rw [et]; first | done | rfl))) (Slots.cons rfl (by first | exact .refl _ | exact .nilOwn _ _ | exact .nilSl _ | exact .ownSl _ _ _  | exact SV.le.ownEq (by first | rfl | (rw [et, ← List.append_assoc (out ++ gone), List.map_append (l₁ := ((out ++ gone) ++ ((namesF a).take k).filterMap (chgF a b)))]; rfl) | (rw [et]; first | done | rfl)) | exact SV.le.of_eq (by first | rfl | (rw [et, ← List.append_assoc (out ++ gone), List.map_append (l₁ := ((out ++ gone) ++ ((namesF a).take k).filterMap (chgF a b)))]; rfl) | (rw [et]; first | done | rfl))) Slots.nil))))))), (by first | exact List.Sublist.refl _ | exact .cons_cons _ (.cons _ (.refl _)) | exact List.nil_sublist _ | exact .cons _ (.refl _) | exact .cons _ (.cons _ (.refl _)) | exact .cons _ (.cons _ (.cons _ (.refl _))) | exact .cons _ (.cons _ (.cons _ (.cons _ (.refl _)))) | exact .cons_cons _ (List.nil_sublist _))⟩, (by omega), ⟨k + 1, rfl, rfl, (by omega)⟩⟩
   ·
    have hge : (namesF a).length ≤ k := by have := of_decide_eq_false hc2; simp at this; omega
    have hkl : (namesF a).take k = namesF a := List.take_of_length_le hge
    rw [hkl]
    have hf2 : ((namesF a).filterMap (chgF a b)).length ≤ (namesF a).length := List.length_filterMap_le _ _
    refine awp_exit ?_
    refine x_thenE ?_
    refine x_thenE ?_
    refine x_blockE ?_
    refine x_then ?_
    refine awp_seq ?_
    refine awp_seq ?_
    refine awp_region ?_
    refine r_move rfl rfl ?_
    refine r_lenV rfl TF.sl54 rfl ?_
    refine r_move rfl rfl ?_
    refine awl_nil ?_
    refine x_then ?_
    refine awp_block ?_
    refine awp_loop (fun nn0 S => ∃ k : Nat, S = ⟨111, [(6, .a (.cp [.v (.map (some by_))])), (9, .own 9 4 (((out ++ gone) ++ (namesF a).filterMap (chgF a b) ++ (came.take k).map (addF b)).map FC.cs)), (94, .a (.v (.slice (some ⟨g2, 0, none⟩) came.length cap))), (95, .a (.v (.int .i64 (came.length)))), (96, .a (.v (.int .i64 ((k : Int)))))], [⟨g2, true, .box (strsC came ++ ext)⟩, ⟨bx, true, .map (encM Value.string bts mx)⟩, ⟨by_, true, .map (encM Value.string bts my)⟩]⟩ ∧ nn0 = came.length - k ∧ (k ≤ came.length)) (came.length - (0)) ⟨111, [(6, .a (.cp [.v (.map (some by_))])), (9, .own 9 4 (((out ++ gone) ++ (namesF a).filterMap (chgF a b) ++ (came.take (0)).map (addF b)).map FC.cs)), (94, .a (.v (.slice (some ⟨g2, 0, none⟩) came.length cap))), (95, .a (.v (.int .i64 (came.length)))), (96, .a (.v (.int .i64 (((0) : Int)))))], [⟨g2, true, .box (strsC came ++ ext)⟩, ⟨bx, true, .map (encM Value.string bts mx)⟩, ⟨by_, true, .map (encM Value.string bts my)⟩]⟩ ⟨rfl, (Slots.cons rfl (by first | exact .refl _ | exact .nilOwn _ _ | exact .nilSl _ | exact .ownSl _ _ _  | exact SV.le.ownEq (by simp) | exact SV.le.of_eq (by simp)) (Slots.cons rfl (by first | exact .refl _ | exact .nilOwn _ _ | exact .nilSl _ | exact .ownSl _ _ _  | exact SV.le.ownEq (by simp) | exact SV.le.of_eq (by simp)) (Slots.cons rfl (by first | exact .refl _ | exact .nilOwn _ _ | exact .nilSl _ | exact .ownSl _ _ _  | exact SV.le.ownEq (by simp) | exact SV.le.of_eq (by simp)) (Slots.cons rfl (by first | exact .refl _ | exact .nilOwn _ _ | exact .nilSl _ | exact .ownSl _ _ _  | exact SV.le.ownEq (by simp) | exact SV.le.of_eq (by simp)) (Slots.cons rfl (by first | exact .refl _ | exact .nilOwn _ _ | exact .nilSl _ | exact .ownSl _ _ _  | exact SV.le.ownEq (by simp) | exact SV.le.of_eq (by simp)) Slots.nil))))), (by first | exact List.Sublist.refl _ | exact .cons_cons _ (.cons _ (.refl _)) | exact List.nil_sublist _ | exact .cons _ (.refl _) | exact .cons _ (.cons _ (.refl _)) | exact .cons _ (.cons _ (.cons _ (.refl _))) | exact .cons _ (.cons _ (.cons _ (.cons _ (.refl _)))) | exact .cons_cons _ (List.nil_sublist _))⟩ ⟨0, rfl, rfl, Nat.zero_le _⟩ ?_
    rintro nn0 _ ⟨k, rfl, rfl, hk2⟩
    refine awp_seq ?_
    refine awp_region ?_
    refine r_cmp rfl rfl rfl rfl ?_
    refine awl_nil ?_
    refine x_then ?_
    refine awp_seq ?_
    refine awp_cond rfl (fun hc4 => ?_) (fun hc4 => ?_)
    ·
     have hltx : k < came.length := by have := of_decide_eq_true hc4; simpa using this
     obtain ⟨x, hx⟩ := get_lt hltx
     refine awp_skip ?_
     refine x_then ?_
     refine awp_seq ?_
     refine awp_block ?_
     refine awp_seq ?_
     refine awp_region ?_
     refine r_indexV rfl rfl TF.sl54 TF.sz9 (by omega) (by omega) rfl ?_
     refine r_load1b 0 rfl rfl (str_at hx) TF.agg9 rfl ?_
     refine r_assign rfl rfl ?_
     refine awl_nil ?_
     refine x_then ?_
     refine awp_region ?_
     refine r_move rfl rfl ?_
     refine r_move rfl rfl ?_
     refine r_load1 rfl TF.agg109 rfl ?_
     refine r_move rfl rfl ?_
     refine r_lookup 2 (keyEnc_string TF.un9) (ev := bts) [] rfl rfl rfl TF.map109 TF.zavS rfl ?_
     refine r_call0 hq rfl rfl (.cons (.ev rfl rfl) .nil) (clone_ok _ (by rw [hty.get]; exact look_len hdb x)) rfl TF.en47 rfl (fun r hr => ?_)
     obtain rfl := hr
     refine r_build (parts := [(0, .const ((Go.Value.int Go.IntKind.i64 1))), (1, .tmp 101), (3, .tmp 105)]) rfl TF.pl70 TF.zero70 rfl rfl rfl ?_
     refine r_lit 107 (parts := [(0, .tmp 106)]) rfl TF.sl57 TF.sz70 TF.zraw70 rfl rfl rfl rfl rfl rfl rfl ?_
     refine r_append 9 rfl (by first | exact .own _ | exact .nil) rfl (by first | exact .sl _ | exact .own _ _ | exact .nil) TF.sl57 TF.sz70 (by decide) TF.by70 TF.zlen70 (by simp [chunks] <;> omega) (by simp [chunks] <;> omega) rfl ?_
     refine r_assign rfl rfl ?_
     refine awl_nil ?_
     refine x_block ?_
     refine x_then ?_
     refine awp_region ?_
     refine r_ari _ rfl rfl rfl (wrap_id (by first | omega | (simp; omega))) rfl ?_
     refine r_move rfl rfl ?_
     refine awl_nil ?_
     refine x_then ?_
     have et : (((out ++ gone) ++ (namesF a).filterMap (chgF a b) ++ (came.take (k + 1)).map (addF b))).map FC.cs = (((out ++ gone) ++ (namesF a).filterMap (chgF a b) ++ (came.take k).map (addF b))).map FC.cs ++ [[.v (.int .i64 1), .v (.string x), .v (.string E0), bts ((mget my x).getD [])]] := by rw [hty.get, map_take hx, ← List.append_assoc, List.map_append]; rfl
     refine ⟨came.length - (k + 1), ⟨111, [(6, .a (.cp [.v (.map (some by_))])), (9, .own 9 4 (((out ++ gone) ++ (namesF a).filterMap (chgF a b) ++ (came.take (k + 1)).map (addF b)).map FC.cs)), (94, .a (.v (.slice (some ⟨g2, 0, none⟩) came.length cap))), (95, .a (.v (.int .i64 (came.length)))), (96, .a (.v (.int .i64 (((k + 1) : Int)))))], [⟨g2, true, .box (strsC came ++ ext)⟩, ⟨bx, true, .map (encM Value.string bts mx)⟩, ⟨by_, true, .map (encM Value.string bts my)⟩]⟩, ⟨rfl, (Slots.cons rfl (by first | exact .refl _ | exact .nilOwn _ _ | exact .nilSl _ | exact .ownSl _ _ _  | exact SV.le.ownEq (by first | rfl | (rw [et]; rfl)) | exact SV.le.of_eq (by first | rfl | (rw [et]; rfl))) (Slots.cons rfl (by first | exact .refl _ | exact .nilOwn _ _ | exact .nilSl _ | exact .ownSl _ _ _  | exact SV.le.ownEq (by first | rfl | (rw [et]; rfl)) | exact SV.le.of_eq (by first | rfl | (rw [et]; rfl))) (Slots.cons rfl (by first | exact .refl _ | exact .nilOwn _ _ | exact .nilSl _ | exact .ownSl _ _ _  | exact SV.le.ownEq (by first | rfl | (rw [et]; rfl)) | exact SV.le.of_eq (by first | rfl | (rw [et]; rfl))) (Slots.cons rfl (by first | exact .refl _ | exact .nilOwn _ _ | exact .nilSl _ | exact .ownSl _ _ _  | exact SV.le.ownEq (by first | rfl | (rw [et]; rfl)) | exact SV.le.of_eq (by first | rfl | (rw [et]; rfl))) (Slots.cons rfl (by first | exact .refl _ | exact .nilOwn _ _ | exact .nilSl _ | exact .ownSl _ _ _  | exact SV.le.ownEq (by first | rfl | (rw [et]; rfl)) | exact SV.le.of_eq (by first | rfl | (rw [et]; rfl))) Slots.nil))))), (by first | exact List.Sublist.refl _ | exact .cons_cons _ (.cons _ (.refl _)) | exact List.nil_sublist _ | exact .cons _ (.refl _) | exact .cons _ (.cons _ (.refl _)) | exact .cons _ (.cons _ (.cons _ (.refl _))) | exact .cons _ (.cons _ (.cons _ (.cons _ (.refl _)))) | exact .cons_cons _ (List.nil_sublist _))⟩, (by omega), ⟨k + 1, rfl, rfl, (by omega)⟩⟩
    ·
     have hge : came.length ≤ k := by have := of_decide_eq_false hc4; simp at this; omega
     have hkl2 : came.take k = came := List.take_of_length_le hge
     refine awp_exit ?_
     refine x_thenE ?_
     refine x_thenE ?_
     refine x_blockE ?_
     refine x_then ?_
     refine awp_seq ?_
     refine awp_region ?_
     refine r_move rfl rfl ?_
     refine r_assign rfl rfl ?_
     refine awl_nil ?_
     refine x_then ?_
     refine awp_ret ?_
     exact ⟨(.inl rfl), _, [], (.one (by first | exact .mk rfl rfl | exact .nil rfl)), ⟨rfl, by rw [hkl2, OfF, show splitE a b = (came, out, gone) from hst]; rfl⟩, (List.nil_sublist _), (by simp)⟩
end Go.Proofs.YtcbhhjahjnlfhaaDoor.A
namespace Go.Proofs.YtcbhhjahjnlfhaaDoor.A
open Go Go.RowKit
set_option linter.unusedVariables false
set_option linter.unusedSimpArgs false
set_option maxRecDepth 100000
theorem TF.f70_0 : fieldT Tryd.prog 70 0 = some (0, 3) := by kernel_rfl
theorem TF.sz3 : szT Tryd.prog 3 = some 1 := by kernel_rfl
theorem TF.agg3 : aggT Tryd.prog 3 = some false := by kernel_rfl
theorem TF.f70_1 : fieldT Tryd.prog 70 1 = some (1, 9) := by kernel_rfl
theorem TF.f70_3 : fieldT Tryd.prog 70 3 = some (3, 22) := by kernel_rfl
theorem TF.f70_2 : fieldT Tryd.prog 70 2 = some (2, 9) := by kernel_rfl
theorem TF.agg70 : aggT Tryd.prog 70 = some true := by kernel_rfl
theorem TF.en94 : entersT Tryd.prog 94 := enters_of Tryd.func94 (by kernel_rfl) (by kernel_rfl)
theorem TF.en72 : entersT Tryd.prog 72 := enters_of Tryd.func72 (by kernel_rfl) (by kernel_rfl)
theorem TF.pl26 : placesT Tryd.prog 26 = some [(0, 1), (1, 1)] := by kernel_rfl
theorem TF.zraw26 : zeroT Tryd.prog 26 = some [(.string ⟨#[]⟩), (.slice none 0 0)] := by kernel_rfl
theorem TF.by26 : bytesT Tryd.prog 26 = some 40 := by kernel_rfl
theorem TF.zlen26 : (zeroT Tryd.prog 26).map (·.length) = some 2 := by kernel_rfl
theorem named2_ok (l : List File) (hl : l.length ≤ 1000000) (hda : ∀ f ∈ l, f.data.length ≤ 1000000) : AC Tryd.prog 54 [files l] [] (fun r n => ∃ b, r = .v (.map (some b)) ∧ n = [⟨b, true, .map (encM Value.string bts (firstM l))⟩]) := by
 refine ac_of_awp (rs := [2]) (nt := 32) Tryd.func54 rfl rfl rfl rfl (fun w0 C0 hq => ?_)
 refine awp_seq ?_
 refine awp_region ?_
 refine r_assign rfl rfl ?_
 refine awl_nil ?_
 refine x_then ?_
 refine awp_seq ?_
 refine awp_region ?_
 refine r_makeMap (ek := Value.string) (ev := bts) [] rfl rfl (fun b8 => ?_)
 refine r_assign rfl rfl ?_
 refine awl_nil ?_
 refine x_then ?_
 refine awp_seq ?_
 refine awp_seq ?_
 refine awp_region ?_
 refine r_move rfl rfl ?_
 refine r_lenS rfl rfl TF.sl24 rfl ?_
 refine r_move rfl rfl ?_
 refine awl_nil ?_
 refine x_then ?_
 refine awp_block ?_
 refine awp_loop (fun nn0 S => ∃ k : Nat, S = ⟨32, [(3, .a (.v (.map (some b8)))), (9, .a (files l)), (10, .a (.v (.int .i64 ((l.map File.cs).length)))), (11, .a (.v (.int .i64 ((k : Int)))))], [⟨b8, true, .map (encM Value.string bts (firstM (l.take k)))⟩]⟩ ∧ nn0 = l.length - k ∧ (k ≤ l.length)) (l.length - (0)) ⟨32, [(3, .a (.v (.map (some b8)))), (9, .a (files l)), (10, .a (.v (.int .i64 ((l.map File.cs).length)))), (11, .a (.v (.int .i64 (((0) : Int)))))], [⟨b8, true, .map (encM Value.string bts (firstM (l.take (0))))⟩]⟩ ⟨rfl, (Slots.cons rfl (by first | exact .refl _ | exact .nilOwn _ _ | exact .nilSl _ | exact .ownSl _ _ _  | exact SV.le.of_eq (by simp)) (Slots.cons rfl (by first | exact .refl _ | exact .nilOwn _ _ | exact .nilSl _ | exact .ownSl _ _ _  | exact SV.le.of_eq (by simp)) (Slots.cons rfl (by first | exact .refl _ | exact .nilOwn _ _ | exact .nilSl _ | exact .ownSl _ _ _  | exact SV.le.of_eq (by simp)) (Slots.cons rfl (by first | exact .refl _ | exact .nilOwn _ _ | exact .nilSl _ | exact .ownSl _ _ _  | exact SV.le.of_eq (by simp)) Slots.nil)))), (by first | exact List.Sublist.refl _ | exact .cons_cons _ (.cons _ (.refl _)) | exact List.nil_sublist _ | exact .cons _ (.refl _) | exact .cons _ (.cons _ (.refl _)) | exact .cons _ (.cons _ (.cons _ (.refl _))) | exact .cons _ (.cons _ (.cons _ (.cons _ (.refl _)))) | exact .cons_cons _ (List.nil_sublist _))⟩ ⟨0, rfl, rfl, Nat.zero_le _⟩ ?_
 rintro nn0 _ ⟨k, rfl, rfl, hk⟩
 refine awp_seq ?_
 refine awp_region ?_
 refine r_cmp rfl rfl rfl rfl ?_
 refine awl_nil ?_
 refine x_then ?_
 refine awp_seq ?_
 refine awp_cond rfl (fun hc0 => ?_) (fun hc0 => ?_)
 ·
  have hltx : k < l.length := by have := of_decide_eq_true hc0; simpa using this
  obtain ⟨x, hx⟩ := get_lt hltx
  refine awp_skip ?_
  refine x_then ?_
  refine awp_seq ?_
  refine awp_block ?_
  refine awp_seq ?_
  refine awp_region ?_
  refine r_index rfl rfl rfl TF.sl24 TF.sz26 (by omega) (get_map hx) rfl ?_
  refine r_loadA rfl TF.agg26 TF.sz26 rfl rfl ?_
  refine r_alloc TF.zero26 rfl (fun b5 => ?_)
  refine r_store 0 rfl rfl rfl TF.sz26 rfl rfl rfl ?_
  refine awl_nil ?_
  refine x_then ?_
  refine awp_seq ?_
  refine awp_region ?_
  refine r_move rfl rfl ?_
  refine r_fieldb rfl TF.f26_0 TF.sz9 rfl ?_
  refine r_load1b 0 rfl rfl rfl TF.agg9 rfl ?_
  refine r_lookupOk 1 (keyEnc_string TF.un9) (ev := bts) [] rfl rfl rfl TF.map109 TF.zavS rfl ?_
  refine r_move rfl rfl ?_
  refine r_extract rfl rfl rfl ?_
  refine r_extract rfl rfl rfl ?_
  refine r_assign rfl rfl ?_
  refine r_assign rfl rfl ?_
  refine awl_nil ?_
  refine x_then ?_
  refine awp_seq ?_
  refine awp_region ?_
  refine r_move rfl rfl ?_
  refine r_not rfl rfl ?_
  refine awl_nil ?_
  refine x_then ?_
  refine awp_cond rfl (fun hc1 => ?_) (fun hc1 => ?_)
  ·
   have hg : (mget (firstM (l.take k)) x.name).isSome = false := by simpa using hc1
   refine awp_drawS [24, 25, 26, 27, 28, 29] [_, _, _, _, _, _] [] [] TF.mixed rfl rfl rfl ⟨⟨⟨⟨⟨⟨trivial
    , ⟨_, rfl, fun sl hd hr ho => by
      refine r_move (hr 3 _ rfl rfl rfl) rfl ?_
      exact awl_nil ⟨rfl, post_put⟩⟩⟩
    , ⟨_, rfl, fun sl hd hr ho => by
      refine r_fieldb (hr 5 _ rfl rfl rfl) TF.f26_0 TF.sz9 rfl ?_
      exact awl_nil ⟨rfl, post_put⟩⟩⟩
    , ⟨_, rfl, fun sl hd hr ho => by
      refine r_load1b 0 (hd 1 _ rfl rfl rfl) rfl rfl TF.agg9 rfl ?_
      exact awl_nil ⟨rfl, post_put⟩⟩⟩
    , ⟨_, rfl, fun sl hd hr ho => by
      refine r_fieldb (hr 5 _ rfl rfl rfl) TF.f26_1 TF.sz22 rfl ?_
      exact awl_nil ⟨rfl, post_put⟩⟩⟩
    , ⟨_, rfl, fun sl hd hr ho => by
      refine r_load1b 0 (hd 3 _ rfl rfl rfl) rfl rfl TF.agg22 rfl ?_
      exact awl_nil ⟨rfl, post_put⟩⟩⟩
    , ⟨_, rfl, fun sl hd hr ho => by
      refine r_call0 hq rfl rfl (.cons (.ev (hd 4 _ rfl rfl rfl) rfl) .nil) (clone_ok x.data (hda x (List.mem_of_getElem? hx))) rfl TF.en47 rfl (fun r hr => ?_)
      obtain rfl := hr
      exact awl_nil ⟨rfl, post_put⟩⟩⟩
    (by rfl) ?_
   refine r_mapUpdate 1 (keyEnc_string TF.un9) (ev := bts) x.data rfl rfl rfl rfl rfl TF.map109 ?_
   refine awl_nil ?_
   refine x_block ?_
   refine x_then ?_
   refine awp_region ?_
   refine r_ari _ rfl rfl rfl (wrap_id (by first | omega | (simp; omega))) rfl ?_
   refine r_move rfl rfl ?_
   refine awl_nil ?_
   refine x_then ?_
   have hst := firstM_step hx
   refine ⟨l.length - (k + 1), ⟨32, [(3, .a (.v (.map (some b8)))), (9, .a (files l)), (10, .a (.v (.int .i64 ((l.map File.cs).length)))), (11, .a (.v (.int .i64 (((k + 1) : Int)))))], [⟨b8, true, .map (encM Value.string bts (firstM (l.take (k + 1))))⟩]⟩, ⟨rfl, (Slots.cons rfl (by first | exact .refl _ | exact .nilOwn _ _ | exact .nilSl _ | exact .ownSl _ _ _  | exact SV.le.of_eq (by simp)) (Slots.cons rfl (by first | exact .refl _ | exact .nilOwn _ _ | exact .nilSl _ | exact .ownSl _ _ _  | exact SV.le.of_eq (by simp)) (Slots.cons rfl (by first | exact .refl _ | exact .nilOwn _ _ | exact .nilSl _ | exact .ownSl _ _ _  | exact SV.le.of_eq (by simp)) (Slots.cons rfl (by first | exact .refl _ | exact .nilOwn _ _ | exact .nilSl _ | exact .ownSl _ _ _  | exact SV.le.of_eq (by simp)) Slots.nil)))), (by rw [hst, hg]; first | exact List.Sublist.refl _ | exact .cons_cons _ (.cons _ (.refl _)) | exact List.nil_sublist _ | exact .cons _ (.refl _) | exact .cons _ (.cons _ (.refl _)) | exact .cons _ (.cons _ (.cons _ (.refl _))) | exact .cons _ (.cons _ (.cons _ (.cons _ (.refl _)))) | exact .cons_cons _ (List.nil_sublist _))⟩, (by omega), ⟨k + 1, rfl, rfl, (by omega)⟩⟩
  ·
   have hg : (mget (firstM (l.take k)) x.name).isSome = true := by simpa using hc1
   refine awp_skip ?_
   refine x_block ?_
   refine x_then ?_
   refine awp_region ?_
   refine r_ari _ rfl rfl rfl (wrap_id (by first | omega | (simp; omega))) rfl ?_
   refine r_move rfl rfl ?_
   refine awl_nil ?_
   refine x_then ?_
   have hst := firstM_step hx
   refine ⟨l.length - (k + 1), ⟨32, [(3, .a (.v (.map (some b8)))), (9, .a (files l)), (10, .a (.v (.int .i64 ((l.map File.cs).length)))), (11, .a (.v (.int .i64 (((k + 1) : Int)))))], [⟨b8, true, .map (encM Value.string bts (firstM (l.take (k + 1))))⟩]⟩, ⟨rfl, (Slots.cons rfl (by first | exact .refl _ | exact .nilOwn _ _ | exact .nilSl _ | exact .ownSl _ _ _  | exact SV.le.of_eq (by simp)) (Slots.cons rfl (by first | exact .refl _ | exact .nilOwn _ _ | exact .nilSl _ | exact .ownSl _ _ _  | exact SV.le.of_eq (by simp)) (Slots.cons rfl (by first | exact .refl _ | exact .nilOwn _ _ | exact .nilSl _ | exact .ownSl _ _ _  | exact SV.le.of_eq (by simp)) (Slots.cons rfl (by first | exact .refl _ | exact .nilOwn _ _ | exact .nilSl _ | exact .ownSl _ _ _  | exact SV.le.of_eq (by simp)) Slots.nil)))), (by rw [hst, hg]; first | exact List.Sublist.refl _ | exact .cons_cons _ (.cons _ (.refl _)) | exact List.nil_sublist _ | exact .cons _ (.refl _) | exact .cons _ (.cons _ (.refl _)) | exact .cons _ (.cons _ (.cons _ (.refl _))) | exact .cons _ (.cons _ (.cons _ (.cons _ (.refl _)))) | exact .cons_cons _ (List.nil_sublist _))⟩, (by omega), ⟨k + 1, rfl, rfl, (by omega)⟩⟩
 ·
  have hge : l.length ≤ k := by have := of_decide_eq_false hc0; simp at this; omega
  rw [List.take_of_length_le hge]
  refine awp_exit ?_
  refine x_thenE ?_
  refine x_thenE ?_
  refine x_blockE ?_
  refine x_then ?_
  refine awp_seq ?_
  refine awp_region ?_
  refine r_move rfl rfl ?_
  refine r_assign rfl rfl ?_
  refine awl_nil ?_
  refine x_then ?_
  refine awp_ret ?_
  exact ⟨(.inl rfl), _, [⟨b8, true, .map (encM Value.string bts (firstM l))⟩], (.one (by first | exact .mk rfl rfl | exact .nil rfl)), ⟨b8, rfl, rfl⟩, (by first | exact List.Sublist.refl _ | exact .cons_cons _ (.cons _ (.refl _)) | exact List.nil_sublist _ | exact .cons _ (.refl _) | exact .cons _ (.cons _ (.refl _)) | exact .cons _ (.cons _ (.cons _ (.refl _))) | exact .cons _ (.cons _ (.cons _ (.cons _ (.refl _)))) | exact .cons_cons _ (List.nil_sublist _)), (by simp)⟩
theorem alter_ok (m : SM) (c : FC) (hdc : c.data.length ≤ 1000000) {b : Nat} {fl : Bool} : AW Tryd.prog 94 [.v (.map (some b)), .agg (FC.cs c)] [] [⟨b, fl, .map (encM Value.string bts m)⟩] (fun r n => r = .v (.int .i64 (alterM m c).1) ∧ n = [⟨b, true, .map (encM Value.string bts (alterM m c).2)⟩]) := by
 refine aw_of_awp (rs := [4]) (nt := 42) (so := [⟨b, true, .map (encM Value.string bts m)⟩]) Tryd.func94 rfl rfl rfl rfl rfl (fun w0 C0 hq => ?_)
 refine awp_seq ?_
 refine awp_region ?_
 refine r_box rfl rfl rfl (fun b3 => ?_)
 refine r_assign rfl rfl ?_
 refine awl_nil ?_
 refine x_then ?_
 refine awp_seq ?_
 refine awp_seq ?_
 refine awp_region ?_
 refine r_fieldb rfl TF.f70_0 TF.sz3 rfl ?_
 refine r_load1b 0 rfl rfl rfl TF.agg3 rfl ?_
 refine awl_nil ?_
 refine x_then ?_
 refine awp_block ?_
 refine awp_seq ?_
 refine awp_region ?_
 refine r_cmp rfl rfl rfl rfl ?_
 refine r_assign rfl rfl ?_
 refine awl_nil ?_
 refine x_then ?_
 refine awp_cond rfl (fun hc0 => ?_) (fun hc0 => ?_)
 ·
  have hk2 : c.kind = 2 := eq_of_beq hc0
  have ha : alterM m c = (0, mdel m c.name) := by simp [alterM, hk2]
  refine awp_region ?_
  refine r_move rfl rfl ?_
  refine r_fieldb rfl TF.f70_1 TF.sz9 rfl ?_
  refine r_load1b 0 rfl rfl rfl TF.agg9 rfl ?_
  refine r_delete 1 (keyEnc_string TF.un9) rfl rfl rfl TF.map109 ?_
  refine awl_nil ?_
  refine x_block ?_
  refine x_then ?_
  refine awp_seq ?_
  refine awp_region ?_
  refine r_assign rfl rfl ?_
  refine awl_nil ?_
  refine x_then ?_
  refine awp_ret ?_
  exact ⟨(.inl rfl), _, [⟨b, true, .map (encM Value.string bts (alterM m c).2)⟩], (.one (by first | exact .mk rfl rfl | exact .nil rfl)), ⟨by rw [ha]; rfl, rfl⟩, (by rw [ha]; first | exact .cons _ (.refl _) | exact .cons_cons _ (List.nil_sublist _) | exact List.Sublist.refl _), (by simp)⟩
 ·
  have hk2 : ¬ c.kind = 2 := by simpa using hc0
  refine awp_seq ?_
  refine awp_region ?_
  refine r_cmp rfl rfl rfl rfl ?_
  refine r_assign rfl rfl ?_
  refine awl_nil ?_
  refine x_then ?_
  refine awp_cond rfl (fun hc1 => ?_) (fun hc1 => ?_)
  ·
   have hk3 : c.kind = 3 := eq_of_beq hc1
   have ha : alterM m c = (0, mset m c.name c.data) := by simp [alterM, hk3]
   refine awp_drawS [16, 17, 18, 19, 20, 21] [_, _, _, _, _, _] [] [] TF.mixed rfl rfl rfl ⟨⟨⟨⟨⟨⟨trivial
    , ⟨_, rfl, fun sl hd hr ho => by
      refine r_move (hr 0 _ rfl rfl rfl) rfl ?_
      exact awl_nil ⟨rfl, post_put⟩⟩⟩
    , ⟨_, rfl, fun sl hd hr ho => by
      refine r_fieldb (hr 3 _ rfl rfl rfl) TF.f70_1 TF.sz9 rfl ?_
      exact awl_nil ⟨rfl, post_put⟩⟩⟩
    , ⟨_, rfl, fun sl hd hr ho => by
      refine r_load1b 0 (hd 1 _ rfl rfl rfl) rfl rfl TF.agg9 rfl ?_
      exact awl_nil ⟨rfl, post_put⟩⟩⟩
    , ⟨_, rfl, fun sl hd hr ho => by
      refine r_fieldb (hr 3 _ rfl rfl rfl) TF.f70_3 TF.sz22 rfl ?_
      exact awl_nil ⟨rfl, post_put⟩⟩⟩
    , ⟨_, rfl, fun sl hd hr ho => by
      refine r_load1b 0 (hd 3 _ rfl rfl rfl) rfl rfl TF.agg22 rfl ?_
      exact awl_nil ⟨rfl, post_put⟩⟩⟩
    , ⟨_, rfl, fun sl hd hr ho => by
      refine r_call0 hq rfl rfl (.cons (.ev (hd 4 _ rfl rfl rfl) rfl) .nil) (clone_ok c.data hdc) rfl TF.en47 rfl (fun r hr => ?_)
      obtain rfl := hr
      exact awl_nil ⟨rfl, post_put⟩⟩⟩
    (by rfl) ?_
   refine r_mapUpdate 1 (keyEnc_string TF.un9) (ev := bts) _ rfl rfl rfl rfl rfl TF.map109 ?_
   refine awl_nil ?_
   refine x_block ?_
   refine x_then ?_
   refine awp_seq ?_
   refine awp_region ?_
   refine r_assign rfl rfl ?_
   refine awl_nil ?_
   refine x_then ?_
   refine awp_ret ?_
   exact ⟨(.inl rfl), _, [⟨b, true, .map (encM Value.string bts (alterM m c).2)⟩], (.one (by first | exact .mk rfl rfl | exact .nil rfl)), ⟨by rw [ha]; rfl, rfl⟩, (by rw [ha]; first | exact .cons _ (.refl _) | exact .cons_cons _ (List.nil_sublist _) | exact List.Sublist.refl _), (by simp)⟩
  ·
   have hk3 : ¬ c.kind = 3 := by simpa using hc1
   refine awp_seq ?_
   refine awp_region ?_
   refine r_cmp rfl rfl rfl rfl ?_
   refine r_assign rfl rfl ?_
   refine awl_nil ?_
   refine x_then ?_
   refine awp_cond rfl (fun hc2 => ?_) (fun hc2 => ?_)
   ·
    have hk4 : c.kind = 4 := eq_of_beq hc2
    refine awp_seq ?_
    refine awp_seq ?_
    refine awp_region ?_
    refine r_move rfl rfl ?_
    refine r_fieldb rfl TF.f70_2 TF.sz9 rfl ?_
    refine r_load1b 0 rfl rfl rfl TF.agg9 rfl ?_
    refine r_lookupOk 1 (keyEnc_string TF.un9) (ev := bts) [] rfl rfl rfl TF.map109 TF.zavS rfl ?_
    refine r_move rfl rfl ?_
    refine r_extract rfl rfl rfl ?_
    refine r_extract rfl rfl rfl ?_
    refine r_assign rfl rfl ?_
    refine r_assign rfl rfl ?_
    refine awl_nil ?_
    refine x_then ?_
    refine awp_seq ?_
    refine awp_region ?_
    refine r_move rfl rfl ?_
    refine awl_nil ?_
    refine x_then ?_
    refine awp_cond rfl (fun hc3 => ?_) (fun hc3 => ?_)
    ·
     have ha : alterM m c = (5, m) := by simp only [alterM, hk4]; simp; intro h; rw [h] at hc3; cases hc3
     refine awp_seq ?_
     refine awp_region ?_
     refine r_assign rfl rfl ?_
     refine awl_nil ?_
     refine x_then ?_
     refine awp_ret ?_
     refine x_thenR ?_
     refine x_blockR ?_
     refine x_thenR ?_
     exact ⟨(.inl rfl), _, [⟨b, true, .map (encM Value.string bts (alterM m c).2)⟩], (.one (by first | exact .mk rfl rfl | exact .nil rfl)), ⟨by rw [ha]; rfl, rfl⟩, (by rw [ha]; first | exact .cons _ (.refl _) | exact .cons_cons _ (List.nil_sublist _) | exact List.Sublist.refl _), (by simp)⟩
    ·
     have ha : alterM m c = (0, mdel (mset m c.to ((mget m c.name).getD [])) c.name) := by simp only [alterM, hk4]; simp; simpa using hc3
     refine awp_skip ?_
     refine x_then ?_
     refine awp_seq ?_
     refine awp_region ?_
     refine r_move rfl rfl ?_
     refine r_fieldb rfl TF.f70_2 TF.sz9 rfl ?_
     refine r_load1b 0 rfl rfl rfl TF.agg9 rfl ?_
     refine r_move rfl rfl ?_
     refine r_fieldb rfl TF.f70_1 TF.sz9 rfl ?_
     refine r_load1b 0 rfl rfl rfl TF.agg9 rfl ?_
     refine r_lookup 1 (keyEnc_string TF.un9) (ev := bts) [] rfl rfl rfl TF.map109 TF.zavS rfl ?_
     refine r_mapUpdate 1 (keyEnc_string TF.un9) (ev := bts) _ rfl rfl rfl rfl rfl TF.map109 ?_
     refine awl_nil ?_
     refine x_then ?_
     refine awp_region ?_
     refine r_move rfl rfl ?_
     refine r_fieldb rfl TF.f70_1 TF.sz9 rfl ?_
     refine r_load1b 0 rfl rfl rfl TF.agg9 rfl ?_
     refine r_delete 1 (keyEnc_string TF.un9) rfl rfl rfl TF.map109 ?_
     refine awl_nil ?_
     refine x_block ?_
     refine x_then ?_
     refine awp_seq ?_
     refine awp_region ?_
     refine r_assign rfl rfl ?_
     refine awl_nil ?_
     refine x_then ?_
     refine awp_ret ?_
     exact ⟨(.inl rfl), _, [⟨b, true, .map (encM Value.string bts (alterM m c).2)⟩], (.one (by first | exact .mk rfl rfl | exact .nil rfl)), ⟨by rw [ha]; rfl, rfl⟩, (by rw [ha]; first | exact .cons _ (.refl _) | exact .cons_cons _ (List.nil_sublist _) | exact List.Sublist.refl _), (by simp)⟩
   ·
    have hk4 : ¬ c.kind = 4 := by simpa using hc2
    have ha : alterM m c = (0, m) := by simp [alterM, hk2, hk3, hk4]
    refine awp_skip ?_
    refine x_block ?_
    refine x_then ?_
    refine awp_seq ?_
    refine awp_region ?_
    refine r_assign rfl rfl ?_
    refine awl_nil ?_
    refine x_then ?_
    refine awp_ret ?_
    exact ⟨(.inl rfl), _, [⟨b, true, .map (encM Value.string bts (alterM m c).2)⟩], (.one (by first | exact .mk rfl rfl | exact .nil rfl)), ⟨by rw [ha]; rfl, rfl⟩, (by rw [ha]; first | exact .cons _ (.refl _) | exact .cons_cons _ (List.nil_sublist _) | exact List.Sublist.refl _), (by simp)⟩
theorem step_ok (m : SM) (c : FC) (hdc : c.data.length ≤ 1000000) {b : Nat} {fl : Bool} : AW Tryd.prog 72 [.v (.map (some b)), .agg (FC.cs c)] [] [⟨b, fl, .map (encM Value.string bts m)⟩] (fun r n => r = .v (.int .i64 (stepM m c).1) ∧ n = [⟨b, true, .map (encM Value.string bts (stepM m c).2)⟩]) := by
 refine aw_of_awp (rs := [4]) (nt := 34) (so := [⟨b, true, .map (encM Value.string bts m)⟩]) Tryd.func72 rfl rfl rfl rfl rfl (fun w0 C0 hq => ?_)
 refine awp_seq ?_
 refine awp_region ?_
 refine r_box rfl rfl rfl (fun b3 => ?_)
 refine r_assign rfl rfl ?_
 refine awl_nil ?_
 refine x_then ?_
 refine awp_seq ?_
 refine awp_region ?_
 refine r_move rfl rfl ?_
 refine r_fieldb rfl TF.f70_1 TF.sz9 rfl ?_
 refine r_load1b 0 rfl rfl rfl TF.agg9 rfl ?_
 refine r_lookupOk 1 (keyEnc_string TF.un9) (ev := bts) [] rfl rfl rfl TF.map109 TF.zavS rfl ?_
 refine r_move rfl rfl ?_
 refine r_extract rfl rfl rfl ?_
 refine r_extract rfl rfl rfl ?_
 refine r_assign rfl rfl ?_
 refine r_assign rfl rfl ?_
 refine awl_nil ?_
 refine x_then ?_
 refine awp_seq ?_
 refine awp_seq ?_
 refine awp_region ?_
 refine r_fieldb rfl TF.f70_0 TF.sz3 rfl ?_
 refine r_load1b 0 rfl rfl rfl TF.agg3 rfl ?_
 refine awl_nil ?_
 refine x_then ?_
 refine awp_block ?_
 refine awp_seq ?_
 refine awp_region ?_
 refine r_cmp rfl rfl rfl rfl ?_
 refine r_assign rfl rfl ?_
 refine awl_nil ?_
 refine x_then ?_
 refine awp_cond rfl (fun hc0 => ?_) (fun hc0 => ?_)
 ·
  have hk1 : c.kind = 1 := eq_of_beq hc0
  refine awp_seq ?_
  refine awp_seq ?_
  refine awp_region ?_
  refine r_move rfl rfl ?_
  refine awl_nil ?_
  refine x_then ?_
  refine awp_cond rfl (fun hc1 => ?_) (fun hc1 => ?_)
  ·
   have ha : stepM m c = (5, m) := by simp only [stepM, hk1]; simp; intro h; rw [h] at hc1; cases hc1
   refine awp_seq ?_
   refine awp_region ?_
   refine r_assign rfl rfl ?_
   refine awl_nil ?_
   refine x_then ?_
   refine awp_ret ?_
   refine x_thenR ?_
   refine x_blockR ?_
   refine x_thenR ?_
   exact ⟨(.inl rfl), _, [⟨b, true, .map (encM Value.string bts (stepM m c).2)⟩], (.one (by first | exact .mk rfl rfl | exact .nil rfl)), ⟨by rw [ha]; rfl, rfl⟩, (by rw [ha]; first | exact .cons _ (.refl _) | exact .cons_cons _ (List.nil_sublist _) | exact List.Sublist.refl _), (by simp)⟩
  ·
   have ha : stepM m c = (0, mset m c.name c.data) := by simp only [stepM, hk1]; simp; simpa using hc1
   refine awp_skip ?_
   refine x_then ?_
   refine awp_drawS [19, 20, 21, 22, 23, 24] [_, _, _, _, _, _] [] [] TF.mixed rfl rfl rfl ⟨⟨⟨⟨⟨⟨trivial
    , ⟨_, rfl, fun sl hd hr ho => by
      refine r_move (hr 0 _ rfl rfl rfl) rfl ?_
      exact awl_nil ⟨rfl, post_put⟩⟩⟩
    , ⟨_, rfl, fun sl hd hr ho => by
      refine r_fieldb (hr 3 _ rfl rfl rfl) TF.f70_1 TF.sz9 rfl ?_
      exact awl_nil ⟨rfl, post_put⟩⟩⟩
    , ⟨_, rfl, fun sl hd hr ho => by
      refine r_load1b 0 (hd 1 _ rfl rfl rfl) rfl rfl TF.agg9 rfl ?_
      exact awl_nil ⟨rfl, post_put⟩⟩⟩
    , ⟨_, rfl, fun sl hd hr ho => by
      refine r_fieldb (hr 3 _ rfl rfl rfl) TF.f70_3 TF.sz22 rfl ?_
      exact awl_nil ⟨rfl, post_put⟩⟩⟩
    , ⟨_, rfl, fun sl hd hr ho => by
      refine r_load1b 0 (hd 3 _ rfl rfl rfl) rfl rfl TF.agg22 rfl ?_
      exact awl_nil ⟨rfl, post_put⟩⟩⟩
    , ⟨_, rfl, fun sl hd hr ho => by
      refine r_call0 hq rfl rfl (.cons (.ev (hd 4 _ rfl rfl rfl) rfl) .nil) (clone_ok c.data hdc) rfl TF.en47 rfl (fun r hr => ?_)
      obtain rfl := hr
      exact awl_nil ⟨rfl, post_put⟩⟩⟩
    (by rfl) ?_
   refine r_mapUpdate 1 (keyEnc_string TF.un9) (ev := bts) c.data rfl rfl rfl rfl rfl TF.map109 ?_
   refine awl_nil ?_
   refine x_block ?_
   refine x_then ?_
   refine awp_seq ?_
   refine awp_region ?_
   refine r_assign rfl rfl ?_
   refine awl_nil ?_
   refine x_then ?_
   refine awp_ret ?_
   exact ⟨(.inl rfl), _, [⟨b, true, .map (encM Value.string bts (stepM m c).2)⟩], (.one (by first | exact .mk rfl rfl | exact .nil rfl)), ⟨by rw [ha]; rfl, rfl⟩, (by rw [ha]; first | exact .cons _ (.refl _) | exact .cons_cons _ (List.nil_sublist _) | exact List.Sublist.refl _), (by simp)⟩
 ·
  have hk1 : ¬ c.kind = 1 := by simpa using hc0
  refine awp_seq ?_
  refine awp_seq ?_
  refine awp_region ?_
  refine r_cmp rfl rfl rfl rfl ?_
  refine r_assign rfl rfl ?_
  refine awl_nil ?_
  refine x_then ?_
  refine awp_cond rfl (fun hc2 => ?_) (fun hc2 => ?_)
  ·
   have hkk : c.kind = 2 ∨ c.kind = 3 ∨ c.kind = 4 := .inl (eq_of_beq hc2)
   refine awp_skip ?_
   refine x_then ?_
   refine awp_cond rfl (fun hc4 => ?_) (fun hc4 => ?_)
   ·
    refine awp_seq ?_
    refine awp_seq ?_
    refine awp_region ?_
    refine r_move rfl rfl ?_
    refine r_not rfl rfl ?_
    refine awl_nil ?_
    refine x_then ?_
    refine awp_cond rfl (fun hc5 => ?_) (fun hc5 => ?_)
    ·
     have ha : stepM m c = (4, m) := by simp only [stepM, hk1, if_false, if_pos hkk]; rw [if_neg (by simpa using hc5)]
     refine awp_seq ?_
     refine awp_region ?_
     refine r_assign rfl rfl ?_
     refine awl_nil ?_
     refine x_then ?_
     refine awp_ret ?_
     refine x_thenR ?_
     refine x_blockR ?_
     refine x_thenR ?_
     exact ⟨(.inl rfl), _, [⟨b, true, .map (encM Value.string bts (stepM m c).2)⟩], (.one (by first | exact .mk rfl rfl | exact .nil rfl)), ⟨by rw [ha]; rfl, rfl⟩, (by rw [ha]; first | exact .cons _ (.refl _) | exact .cons_cons _ (List.nil_sublist _) | exact List.Sublist.refl _), (by simp)⟩
    ·
     have ha : stepM m c = alterM m c := by simp only [stepM, hk1, if_false, if_pos hkk]; rw [if_pos (by simpa using hc5)]
     refine awp_skip ?_
     refine x_then ?_
     refine awp_seq ?_
     refine awp_region ?_
     refine r_move rfl rfl ?_
     refine r_loadAb 0 rfl rfl TF.agg70 TF.sz70 rfl rfl ?_
     refine r_callW hq [false, true] rfl rfl (.cons (.ev rfl rfl) (.cons (.ev rfl rfl) .nil)) (alter_ok m c hdc) rfl TF.en94 rfl rfl (List.nil_sublist _) rfl (fun r nobjs hr => ?_)
     obtain ⟨rfl, rfl⟩ := hr
     refine r_assign rfl rfl ?_
     refine awl_nil ?_
     refine x_then ?_
     refine awp_ret ?_
     refine x_blockR ?_
     refine x_thenR ?_
     exact ⟨(.inl rfl), _, [⟨b, true, .map (encM Value.string bts (stepM m c).2)⟩], (.one (by first | exact .mk rfl rfl | exact .nil rfl)), ⟨by rw [ha]; rfl, rfl⟩, (by rw [ha]; first | exact .cons _ (.refl _) | exact .cons_cons _ (List.nil_sublist _) | exact List.Sublist.refl _), (by simp)⟩
   ·
    exfalso; rw [hc2] at hc4; cases hc4
  ·
   have hk2 : ¬ c.kind = 2 := by simpa using hc2
   refine awp_seq ?_
   refine awp_region ?_
   refine r_cmp rfl rfl rfl rfl ?_
   refine r_assign rfl rfl ?_
   refine awl_nil ?_
   refine x_then ?_
   refine awp_cond rfl (fun hc3 => ?_) (fun hc3 => ?_)
   ·
    have hkk : c.kind = 2 ∨ c.kind = 3 ∨ c.kind = 4 := .inr (.inl (eq_of_beq hc3))
    refine awp_skip ?_
    refine x_then ?_
    refine awp_cond rfl (fun hc4 => ?_) (fun hc4 => ?_)
    ·
     refine awp_seq ?_
     refine awp_seq ?_
     refine awp_region ?_
     refine r_move rfl rfl ?_
     refine r_not rfl rfl ?_
     refine awl_nil ?_
     refine x_then ?_
     refine awp_cond rfl (fun hc5 => ?_) (fun hc5 => ?_)
     ·
      have ha : stepM m c = (4, m) := by simp only [stepM, hk1, if_false, if_pos hkk]; rw [if_neg (by simpa using hc5)]
      refine awp_seq ?_
      refine awp_region ?_
      refine r_assign rfl rfl ?_
      refine awl_nil ?_
      refine x_then ?_
      refine awp_ret ?_
      refine x_thenR ?_
      refine x_blockR ?_
      refine x_thenR ?_
      exact ⟨(.inl rfl), _, [⟨b, true, .map (encM Value.string bts (stepM m c).2)⟩], (.one (by first | exact .mk rfl rfl | exact .nil rfl)), ⟨by rw [ha]; rfl, rfl⟩, (by rw [ha]; first | exact .cons _ (.refl _) | exact .cons_cons _ (List.nil_sublist _) | exact List.Sublist.refl _), (by simp)⟩
     ·
      have ha : stepM m c = alterM m c := by simp only [stepM, hk1, if_false, if_pos hkk]; rw [if_pos (by simpa using hc5)]
      refine awp_skip ?_
      refine x_then ?_
      refine awp_seq ?_
      refine awp_region ?_
      refine r_move rfl rfl ?_
      refine r_loadAb 0 rfl rfl TF.agg70 TF.sz70 rfl rfl ?_
      refine r_callW hq [false, true] rfl rfl (.cons (.ev rfl rfl) (.cons (.ev rfl rfl) .nil)) (alter_ok m c hdc) rfl TF.en94 rfl rfl (List.nil_sublist _) rfl (fun r nobjs hr => ?_)
      obtain ⟨rfl, rfl⟩ := hr
      refine r_assign rfl rfl ?_
      refine awl_nil ?_
      refine x_then ?_
      refine awp_ret ?_
      refine x_blockR ?_
      refine x_thenR ?_
      exact ⟨(.inl rfl), _, [⟨b, true, .map (encM Value.string bts (stepM m c).2)⟩], (.one (by first | exact .mk rfl rfl | exact .nil rfl)), ⟨by rw [ha]; rfl, rfl⟩, (by rw [ha]; first | exact .cons _ (.refl _) | exact .cons_cons _ (List.nil_sublist _) | exact List.Sublist.refl _), (by simp)⟩
    ·
     exfalso; rw [hc3] at hc4; cases hc4
   ·
    have hk3 : ¬ c.kind = 3 := by simpa using hc3
    refine awp_region ?_
    refine r_cmp rfl rfl rfl rfl ?_
    refine r_assign rfl rfl ?_
    refine awl_nil ?_
    refine x_then ?_
    refine awp_cond rfl (fun hc4 => ?_) (fun hc4 => ?_)
    ·
     have hkk : c.kind = 2 ∨ c.kind = 3 ∨ c.kind = 4 := .inr (.inr (eq_of_beq hc4))
     refine awp_seq ?_
     refine awp_seq ?_
     refine awp_region ?_
     refine r_move rfl rfl ?_
     refine r_not rfl rfl ?_
     refine awl_nil ?_
     refine x_then ?_
     refine awp_cond rfl (fun hc5 => ?_) (fun hc5 => ?_)
     ·
      have ha : stepM m c = (4, m) := by simp only [stepM, hk1, if_false, if_pos hkk]; rw [if_neg (by simpa using hc5)]
      refine awp_seq ?_
      refine awp_region ?_
      refine r_assign rfl rfl ?_
      refine awl_nil ?_
      refine x_then ?_
      refine awp_ret ?_
      refine x_thenR ?_
      refine x_blockR ?_
      refine x_thenR ?_
      exact ⟨(.inl rfl), _, [⟨b, true, .map (encM Value.string bts (stepM m c).2)⟩], (.one (by first | exact .mk rfl rfl | exact .nil rfl)), ⟨by rw [ha]; rfl, rfl⟩, (by rw [ha]; first | exact .cons _ (.refl _) | exact .cons_cons _ (List.nil_sublist _) | exact List.Sublist.refl _), (by simp)⟩
     ·
      have ha : stepM m c = alterM m c := by simp only [stepM, hk1, if_false, if_pos hkk]; rw [if_pos (by simpa using hc5)]
      refine awp_skip ?_
      refine x_then ?_
      refine awp_seq ?_
      refine awp_region ?_
      refine r_move rfl rfl ?_
      refine r_loadAb 0 rfl rfl TF.agg70 TF.sz70 rfl rfl ?_
      refine r_callW hq [false, true] rfl rfl (.cons (.ev rfl rfl) (.cons (.ev rfl rfl) .nil)) (alter_ok m c hdc) rfl TF.en94 rfl rfl (List.nil_sublist _) rfl (fun r nobjs hr => ?_)
      obtain ⟨rfl, rfl⟩ := hr
      refine r_assign rfl rfl ?_
      refine awl_nil ?_
      refine x_then ?_
      refine awp_ret ?_
      refine x_blockR ?_
      refine x_thenR ?_
      exact ⟨(.inl rfl), _, [⟨b, true, .map (encM Value.string bts (stepM m c).2)⟩], (.one (by first | exact .mk rfl rfl | exact .nil rfl)), ⟨by rw [ha]; rfl, rfl⟩, (by rw [ha]; first | exact .cons _ (.refl _) | exact .cons_cons _ (List.nil_sublist _) | exact List.Sublist.refl _), (by simp)⟩
    ·
     have hk4 : ¬ c.kind = 4 := by simpa using hc4
     have ha : stepM m c = (18, m) := by simp [stepM, hk1, hk2, hk3, hk4]
     refine awp_seq ?_
     refine awp_region ?_
     refine r_assign rfl rfl ?_
     refine awl_nil ?_
     refine x_then ?_
     refine awp_ret ?_
     refine x_blockR ?_
     refine x_thenR ?_
     exact ⟨(.inl rfl), _, [⟨b, true, .map (encM Value.string bts (stepM m c).2)⟩], (.one (by first | exact .mk rfl rfl | exact .nil rfl)), ⟨by rw [ha]; rfl, rfl⟩, (by rw [ha]; first | exact .cons _ (.refl _) | exact .cons_cons _ (List.nil_sublist _) | exact List.Sublist.refl _), (by simp)⟩
set_option maxHeartbeats 1000000 in
theorem apply_ok (l : List File) (d : List FC) (hl : l.length ≤ 1000) (hld : d.length ≤ 10000) (hln : ∀ f ∈ l, f.name.size ≤ 1000000) (hdl : ∀ f ∈ l, f.data.length ≤ 1000000) (hdn : ∀ c ∈ d, c.name.size ≤ 1000000 ∧ c.to.size ≤ 1000000 ∧ c.data.length ≤ 1000000) : AC Tryd.prog 28 [files l, fcsA d] [] (fun r n => n = [] ∧ ((∃ m, applyM (firstM l) d = (0, m) ∧ OkM m (l.length + d.length) ∧ r = .tup [files (filesM m), .v (.int .i64 0)]) ∨ (∃ e m, applyM (firstM l) d = (e, m) ∧ ¬ e = 0 ∧ r = .tup [.v (.slice none 0 0), .v (.int .i64 e)]))) := by
 refine ac_of_awp (rs := [4, 5]) (nt := 45) Tryd.func28 rfl rfl rfl rfl (fun w0 C0 hq => ?_)
 refine awp_seq ?_
 refine awp_region ?_
 refine r_assign rfl rfl ?_
 refine r_assign rfl rfl ?_
 refine awl_nil ?_
 refine x_then ?_
 refine awp_seq ?_
 refine awp_region ?_
 refine r_move rfl rfl ?_
 refine r_callO hq rfl rfl (.cons (.ev rfl rfl) .nil) (named2_ok l (by omega) hdl) rfl TF.en54 (List.nil_sublist _) rfl (fun r nobjs hr => ?_)
 obtain ⟨bm, rfl, rfl⟩ := hr
 refine r_assign rfl rfl ?_
 refine awl_nil ?_
 refine x_then ?_
 refine awp_seq ?_
 refine awp_seq ?_
 refine awp_region ?_
 refine r_move rfl rfl ?_
 refine r_lenS rfl rfl TF.sl57 rfl ?_
 refine r_move rfl rfl ?_
 refine awl_nil ?_
 refine x_then ?_
 refine awp_block ?_
 refine awp_loop (fun nn0 S => ∃ k : Nat, ∃ m : SM, S = ⟨45, [(6, .a (.v (.map (some bm)))), (15, .a (fcsA d)), (16, .a (.v (.int .i64 ((d.map FC.cs).length)))), (17, .a (.v (.int .i64 ((k : Int)))))], [⟨bm, true, .map (encM Value.string bts m)⟩]⟩ ∧ nn0 = d.length - k ∧ (k ≤ d.length) ∧ (applyM (firstM l) (d.take k) = (0, m)) ∧ (OkM m (l.length + k))) (d.length - (0)) ⟨45, [(6, .a (.v (.map (some bm)))), (15, .a (fcsA d)), (16, .a (.v (.int .i64 ((d.map FC.cs).length)))), (17, .a (.v (.int .i64 (((0) : Int)))))], [⟨bm, true, .map (encM Value.string bts ((firstM l)))⟩]⟩ ⟨rfl, (Slots.cons rfl (by first | exact .refl _ | exact .nilOwn _ _ | exact .nilSl _ | exact .ownSl _ _ _  | exact SV.le.of_eq (by simp)) (Slots.cons rfl (by first | exact .refl _ | exact .nilOwn _ _ | exact .nilSl _ | exact .ownSl _ _ _  | exact SV.le.of_eq (by simp)) (Slots.cons rfl (by first | exact .refl _ | exact .nilOwn _ _ | exact .nilSl _ | exact .ownSl _ _ _  | exact SV.le.of_eq (by simp)) (Slots.cons rfl (by first | exact .refl _ | exact .nilOwn _ _ | exact .nilSl _ | exact .ownSl _ _ _  | exact SV.le.of_eq (by simp)) Slots.nil)))), (by first | exact List.Sublist.refl _ | exact .cons_cons _ (.cons _ (.refl _)) | exact List.nil_sublist _ | exact .cons _ (.refl _) | exact .cons _ (.cons _ (.refl _)) | exact .cons _ (.cons _ (.cons _ (.refl _))) | exact .cons _ (.cons _ (.cons _ (.cons _ (.refl _)))) | exact .cons_cons _ (List.nil_sublist _))⟩ ⟨0, (firstM l), rfl, rfl, Nat.zero_le _, rfl, (okM_first hln)⟩ ?_
 rintro nn0 _ ⟨k, m, rfl, rfl, hk, hap, hok⟩
 refine awp_seq ?_
 refine awp_region ?_
 refine r_cmp rfl rfl rfl rfl ?_
 refine awl_nil ?_
 refine x_then ?_
 refine awp_seq ?_
 refine awp_cond rfl (fun hc0 => ?_) (fun hc0 => ?_)
 ·
  have hltx : k < d.length := by have := of_decide_eq_true hc0; simpa using this
  obtain ⟨x, hx⟩ := get_lt hltx
  refine awp_skip ?_
  refine x_then ?_
  refine awp_seq ?_
  refine awp_block ?_
  refine awp_seq ?_
  refine awp_region ?_
  refine r_index rfl rfl rfl TF.sl57 TF.sz70 (by omega) (get_map hx) rfl ?_
  refine r_loadA rfl TF.agg70 TF.sz70 rfl rfl ?_
  refine r_alloc TF.zero70 rfl (fun b8 => ?_)
  refine r_store 0 rfl rfl rfl TF.sz70 rfl rfl rfl ?_
  refine awl_nil ?_
  refine x_then ?_
  refine awp_seq ?_
  refine awp_region ?_
  refine r_move rfl rfl ?_
  refine r_loadAb 0 rfl rfl TF.agg70 TF.sz70 rfl rfl ?_
  refine r_callW hq [false, true] rfl rfl (.cons (.ev rfl rfl) (.cons (.ev rfl rfl) .nil)) (step_ok m x (hdn x (List.mem_of_getElem? hx)).2.2) rfl TF.en72 rfl rfl (List.nil_sublist _) rfl (fun r nobjs hr => ?_)
  obtain ⟨rfl, rfl⟩ := hr
  refine r_assign rfl rfl ?_
  refine awl_nil ?_
  refine x_then ?_
  refine awp_seq ?_
  refine awp_region ?_
  refine r_move rfl rfl ?_
  refine r_cmp rfl rfl rfl rfl ?_
  refine awl_nil ?_
  refine x_then ?_
  refine awp_cond rfl (fun hc1 => ?_) (fun hc1 => ?_)
  ·
   have hne : ¬ (stepM m x).1 = 0 := by simpa using hc1
   refine awp_seq ?_
   refine awp_region ?_
   refine r_move rfl rfl ?_
   refine r_assign rfl rfl ?_
   refine r_assign rfl rfl ?_
   refine awl_nil ?_
   refine x_then ?_
   refine awp_ret ?_
   refine x_blockR ?_
   refine x_thenR ?_
   refine x_thenR ?_
   refine x_blockR ?_
   refine x_thenR ?_
   exact ⟨(.inl rfl), _, [], (.two (by first | exact .mk rfl rfl | exact .nil rfl) (by first | exact .mk rfl rfl | exact .nil rfl)), ⟨rfl, .inr ⟨(stepM m x).1, (stepM m x).2, applyM_fail hx hap hne, hne, rfl⟩⟩, (List.nil_sublist _), (by simp)⟩
  ·
   have h0 : (stepM m x).1 = 0 := by simpa using hc1
   refine awp_skip ?_
   refine x_block ?_
   refine x_then ?_
   refine awp_region ?_
   refine r_ari _ rfl rfl rfl (wrap_id (by first | omega | (simp; omega))) rfl ?_
   refine r_move rfl rfl ?_
   refine awl_nil ?_
   refine x_then ?_
   refine ⟨d.length - (k + 1), ⟨45, [(6, .a (.v (.map (some bm)))), (15, .a (fcsA d)), (16, .a (.v (.int .i64 ((d.map FC.cs).length)))), (17, .a (.v (.int .i64 (((k + 1) : Int)))))], [⟨bm, true, .map (encM Value.string bts ((stepM m x).2))⟩]⟩, ⟨rfl, (Slots.cons rfl (by first | exact .refl _ | exact .nilOwn _ _ | exact .nilSl _ | exact .ownSl _ _ _  | exact SV.le.of_eq (by simp)) (Slots.cons rfl (by first | exact .refl _ | exact .nilOwn _ _ | exact .nilSl _ | exact .ownSl _ _ _  | exact SV.le.of_eq (by simp)) (Slots.cons rfl (by first | exact .refl _ | exact .nilOwn _ _ | exact .nilSl _ | exact .ownSl _ _ _  | exact SV.le.of_eq (by simp)) (Slots.cons rfl (by first | exact .refl _ | exact .nilOwn _ _ | exact .nilSl _ | exact .ownSl _ _ _  | exact SV.le.of_eq (by simp)) Slots.nil)))), (by first | exact List.Sublist.refl _ | exact .cons_cons _ (.cons _ (.refl _)) | exact List.nil_sublist _ | exact .cons _ (.refl _) | exact .cons _ (.cons _ (.refl _)) | exact .cons _ (.cons _ (.cons _ (.refl _))) | exact .cons _ (.cons _ (.cons _ (.cons _ (.refl _)))) | exact .cons_cons _ (List.nil_sublist _))⟩, (by omega), ⟨k + 1, (stepM m x).2, rfl, rfl, (by omega), (by rw [applyM_step hx hap, ← h0]), (okM_step hok (by have := (hdn x (List.mem_of_getElem? hx)).1; unfold maxLen; omega) (by have := (hdn x (List.mem_of_getElem? hx)).2.1; unfold maxLen; omega))⟩⟩
 ·
  have hge : d.length ≤ k := by have := of_decide_eq_false hc0; simp at this; omega
  obtain rfl : k = d.length := by omega
  have hap2 := applyM_end hge hap
  obtain ⟨ns, hns⟩ : ∃ ns, ns = sortB (m.map (·.1)) := ⟨_, rfl⟩
  have hnl : ns.length = m.length := by rw [hns, sortB_len, List.length_map]
  have hml := hok.len
  refine awp_exit ?_
  refine x_thenE ?_
  refine x_thenE ?_
  refine x_blockE ?_
  refine x_then ?_
  refine awp_seq ?_
  refine awp_region ?_
  refine r_assign rfl rfl ?_
  refine awl_nil ?_
  refine x_then ?_
  refine awp_seq ?_
  refine awp_seq ?_
  refine awp_region ?_
  refine r_move rfl rfl ?_
  refine r_callO hq rfl rfl (.cons (.ev rfl rfl) .nil) (order_ok m hok.nd hok.sz (by omega)) rfl TF.en59 (.cons_cons _ (List.nil_sublist _)) rfl (fun r nobjs hr => ?_)
  obtain ⟨rfl, hr2⟩ := hr
  rw [← hns] at hr2
  obtain rfl := hr2
  refine r_lenS rfl rfl TF.sl54 rfl ?_
  refine r_move rfl rfl ?_
  refine awl_nil ?_
  refine x_then ?_
  refine awp_block ?_
  refine awp_loop (fun nn0 S => ∃ k : Nat, S = ⟨45, [(6, .a (.v (.map (some bm)))), (10, .own 10 2 (((ns.take k).map (fun s : ByteArray => (⟨s, (mget m s).getD []⟩ : File))).map File.cs)), (29, .a (strsA ns)), (30, .a (.v (.int .i64 ((ns.map (fun s : ByteArray => [AV.v (.string s)])).length)))), (31, .a (.v (.int .i64 ((k : Int)))))], [⟨bm, true, .map (encM Value.string bts m)⟩]⟩ ∧ nn0 = ns.length - k ∧ (k ≤ ns.length)) (ns.length - (0)) ⟨45, [(6, .a (.v (.map (some bm)))), (10, .own 10 2 (((ns.take (0)).map (fun s : ByteArray => (⟨s, (mget m s).getD []⟩ : File))).map File.cs)), (29, .a (strsA ns)), (30, .a (.v (.int .i64 ((ns.map (fun s : ByteArray => [AV.v (.string s)])).length)))), (31, .a (.v (.int .i64 (((0) : Int)))))], [⟨bm, true, .map (encM Value.string bts m)⟩]⟩ ⟨rfl, (Slots.cons rfl (by first | exact .refl _ | exact .nilOwn _ _ | exact .nilSl _ | exact .ownSl _ _ _  | exact SV.le.of_eq (by simp)) (Slots.cons rfl (by first | exact .refl _ | exact .nilOwn _ _ | exact .nilSl _ | exact .ownSl _ _ _  | exact SV.le.of_eq (by simp)) (Slots.cons rfl (by first | exact .refl _ | exact .nilOwn _ _ | exact .nilSl _ | exact .ownSl _ _ _  | exact SV.le.of_eq (by simp)) (Slots.cons rfl (by first | exact .refl _ | exact .nilOwn _ _ | exact .nilSl _ | exact .ownSl _ _ _  | exact SV.le.of_eq (by simp)) (Slots.cons rfl (by first | exact .refl _ | exact .nilOwn _ _ | exact .nilSl _ | exact .ownSl _ _ _  | exact SV.le.of_eq (by simp)) Slots.nil))))), (by first | exact List.Sublist.refl _ | exact .cons_cons _ (.cons _ (.refl _)) | exact List.nil_sublist _ | exact .cons _ (.refl _) | exact .cons _ (.cons _ (.refl _)) | exact .cons _ (.cons _ (.cons _ (.refl _))) | exact .cons _ (.cons _ (.cons _ (.cons _ (.refl _)))) | exact .cons_cons _ (List.nil_sublist _))⟩ ⟨0, rfl, rfl, Nat.zero_le _⟩ ?_
  rintro nn0 _ ⟨k, rfl, rfl, hk1⟩
  refine awp_seq ?_
  refine awp_region ?_
  refine r_cmp rfl rfl rfl rfl ?_
  refine awl_nil ?_
  refine x_then ?_
  refine awp_seq ?_
  refine awp_cond rfl (fun hc2 => ?_) (fun hc2 => ?_)
  ·
   have hltx : k < ns.length := by have := of_decide_eq_true hc2; simpa using this
   obtain ⟨x, hx⟩ := get_lt hltx
   refine awp_skip ?_
   refine x_then ?_
   refine awp_seq ?_
   refine awp_block ?_
   refine awp_seq ?_
   refine awp_region ?_
   refine r_index rfl rfl rfl TF.sl54 TF.sz9 (by omega) (get_map hx) rfl ?_
   refine r_load1 rfl TF.agg9 rfl ?_
   refine r_assign rfl rfl ?_
   refine awl_nil ?_
   refine x_then ?_
   refine awp_region ?_
   refine r_move rfl rfl ?_
   refine r_move rfl rfl ?_
   refine r_move rfl rfl ?_
   refine r_move rfl rfl ?_
   refine r_lookup 0 (keyEnc_string TF.un9) (ev := bts) [] rfl rfl rfl TF.map109 TF.zavS rfl ?_
   refine r_build (parts := [(0, .tmp 36), (1, .tmp 39)]) rfl TF.pl26 TF.zero26 rfl rfl rfl ?_
   refine r_lit 41 (parts := [(0, .tmp 40)]) rfl TF.sl24 TF.sz26 TF.zraw26 rfl rfl rfl rfl rfl rfl rfl ?_
   refine r_append 10 rfl (by first | exact .own _ | exact .nil) rfl (by first | exact .sl _ | exact .own _ _ | exact .nil) TF.sl24 TF.sz26 (by decide) TF.by26 TF.zlen26 (by simp [chunks] <;> omega) (by simp [chunks] <;> omega) rfl ?_
   refine r_assign rfl rfl ?_
   refine awl_nil ?_
   refine x_block ?_
   refine x_then ?_
   refine awp_region ?_
   refine r_ari _ rfl rfl rfl (wrap_id (by first | omega | (simp; omega))) rfl ?_
   refine r_move rfl rfl ?_
   refine awl_nil ?_
   refine x_then ?_
   refine ⟨ns.length - (k + 1), ⟨45, [(6, .a (.v (.map (some bm)))), (10, .own 10 2 (((ns.take (k + 1)).map (fun s : ByteArray => (⟨s, (mget m s).getD []⟩ : File))).map File.cs)), (29, .a (strsA ns)), (30, .a (.v (.int .i64 ((ns.map (fun s : ByteArray => [AV.v (.string s)])).length)))), (31, .a (.v (.int .i64 (((k + 1) : Int)))))], [⟨bm, true, .map (encM Value.string bts m)⟩]⟩, ⟨rfl, (Slots.cons rfl (by first | exact .refl _ | exact .nilOwn _ _ | exact .nilSl _ | exact .ownSl _ _ _  | exact SV.le.ownEq (by first | rfl | (rw [map_take hx, List.map_append]; rfl)) | exact SV.le.of_eq (by first | rfl | (rw [map_take hx, List.map_append]; rfl))) (Slots.cons rfl (by first | exact .refl _ | exact .nilOwn _ _ | exact .nilSl _ | exact .ownSl _ _ _  | exact SV.le.ownEq (by first | rfl | (rw [map_take hx, List.map_append]; rfl)) | exact SV.le.of_eq (by first | rfl | (rw [map_take hx, List.map_append]; rfl))) (Slots.cons rfl (by first | exact .refl _ | exact .nilOwn _ _ | exact .nilSl _ | exact .ownSl _ _ _  | exact SV.le.ownEq (by first | rfl | (rw [map_take hx, List.map_append]; rfl)) | exact SV.le.of_eq (by first | rfl | (rw [map_take hx, List.map_append]; rfl))) (Slots.cons rfl (by first | exact .refl _ | exact .nilOwn _ _ | exact .nilSl _ | exact .ownSl _ _ _  | exact SV.le.ownEq (by first | rfl | (rw [map_take hx, List.map_append]; rfl)) | exact SV.le.of_eq (by first | rfl | (rw [map_take hx, List.map_append]; rfl))) (Slots.cons rfl (by first | exact .refl _ | exact .nilOwn _ _ | exact .nilSl _ | exact .ownSl _ _ _  | exact SV.le.ownEq (by first | rfl | (rw [map_take hx, List.map_append]; rfl)) | exact SV.le.of_eq (by first | rfl | (rw [map_take hx, List.map_append]; rfl))) Slots.nil))))), (by first | exact List.Sublist.refl _ | exact .cons_cons _ (.cons _ (.refl _)) | exact List.nil_sublist _ | exact .cons _ (.refl _) | exact .cons _ (.cons _ (.refl _)) | exact .cons _ (.cons _ (.cons _ (.refl _))) | exact .cons _ (.cons _ (.cons _ (.cons _ (.refl _)))) | exact .cons_cons _ (List.nil_sublist _))⟩, (by omega), ⟨k + 1, rfl, rfl, (by omega)⟩⟩
  ·
   have hge : ns.length ≤ k := by have := of_decide_eq_false hc2; simp at this; omega
   have hkl : ns.take k = ns := List.take_of_length_le hge
   refine awp_exit ?_
   refine x_thenE ?_
   refine x_thenE ?_
   refine x_blockE ?_
   refine x_then ?_
   refine awp_seq ?_
   refine awp_region ?_
   refine r_move rfl rfl ?_
   refine r_assign rfl rfl ?_
   refine r_assign rfl rfl ?_
   refine awl_nil ?_
   refine x_then ?_
   refine awp_ret ?_
   exact ⟨(.inl rfl), _, [], (.two (by first | exact .mk rfl rfl | exact .nil rfl) (by first | exact .mk rfl rfl | exact .nil rfl)), ⟨rfl, .inl ⟨m, hap2, hok, by rw [hkl, hns]; rfl⟩⟩, (List.nil_sublist _), (by simp)⟩
end Go.Proofs.YtcbhhjahjnlfhaaDoor.A

/- Layer 62: walks of Of. -/
import Derived.Test.YtmbfmnhcahhciaaProg
import Derived.KernelRfl
import Derived.Test.YtmbfmnhcahhciaaX62B
namespace Go.Proofs.Ytmbfmnhcahhciaa.A
open Go Go.RowKit
set_option linter.unusedVariables false
set_option linter.unusedSimpArgs false
set_option maxRecDepth 100000

theorem TF.en35 : entersT Try.prog 35 := enters_of Try.func35 (by kernel_rfl) (by kernel_rfl)
theorem TF.en32 : entersT Try.prog 32 := enters_of Try.func32 (by kernel_rfl) (by kernel_rfl)
theorem TF.zero72 : ZeroT Try.prog 72 [.v (.map none)] := ⟨[(.map none)], by kernel_rfl, (LeCells.refl _)⟩
theorem TF.sz72 : szT Try.prog 72 = some 1 := by kernel_rfl
theorem TF.en33 : entersT Try.prog 33 := enters_of Try.func33 (by kernel_rfl) (by kernel_rfl)
theorem TF.zero9 : ZeroT Try.prog 9 [.v (.string ⟨#[]⟩)] := ⟨[(.string ⟨#[]⟩)], by kernel_rfl, (LeCells.refl _)⟩
theorem TF.pl44 : placesT Try.prog 44 = some [(0, 1), (1, 1), (2, 1), (3, 1)] := by kernel_rfl
theorem TF.zero44 : ZeroT Try.prog 44 [.v (.int .i64 0), .v (.string ⟨#[]⟩), .v (.string ⟨#[]⟩), .sl 1 []] := ⟨[(.int .i64 0), (.string ⟨#[]⟩), (.string ⟨#[]⟩), (.slice none 0 0)], by kernel_rfl, (.cons (.refl _) (.cons (.refl _) (.cons (.refl _) (.cons (.nil 1) .nil))))⟩
theorem TF.sl39 : sliceT Try.prog 39 = some 44 := by kernel_rfl
theorem TF.sz44 : szT Try.prog 44 = some 4 := by kernel_rfl
theorem TF.zraw44 : zeroT Try.prog 44 = some [(.int .i64 0), (.string ⟨#[]⟩), (.string ⟨#[]⟩), (.slice none 0 0)] := by kernel_rfl
theorem TF.by44 : bytesT Try.prog 44 = some 64 := by kernel_rfl
theorem TF.zlen44 : (zeroT Try.prog 44).map (·.length) = some 4 := by kernel_rfl
theorem TF.en37 : entersT Try.prog 37 := enters_of Try.func37 (by kernel_rfl) (by kernel_rfl)

theorem withoutW_ok {a b : List File} {ma mb : List (ByteArray × List UInt8)} (ha : TellsS ma a) (hb : TellsS mb b) (hsz : ∀ f ∈ a, f.name.size ≤ 1000000) (hlen : a.length ≤ 1000000) {ba bb : Nat} {f1 f2 : Bool} : AC Try.prog 33 [.v (.map (some ba)), .v (.map (some bb))] [⟨ba, f1, .map (encM Value.string bts ma)⟩, ⟨bb, f2, .map (encM Value.string bts mb)⟩] (fun r n => n = [] ∧ r = strsA (wentF a b)) := by
  rw [← went_eq ha hb]; exact without_ok ma mb ha.nd (keys_size ha hsz) (by have := ha.len; omega)
theorem withoutX_ok {a b : List File} {ma mb : List (ByteArray × List UInt8)} (ha : TellsS ma a) (hb : TellsS mb b) (hsz : ∀ f ∈ a, f.name.size ≤ 1000000) (hlen : a.length ≤ 1000000) {ba bb : Nat} {f1 f2 : Bool} : AC Try.prog 33 [.v (.map (some ba)), .v (.map (some bb))] [⟨ba, f1, .map (encM Value.string bts ma)⟩, ⟨bb, f2, .map (encM Value.string bts mb)⟩] (GrowS (wentF a b)) := by
  rw [← went_eq ha hb]; exact withoutG_ok ma mb ha.nd (keys_size ha hsz) (by have := ha.len; omega)
theorem orderN_ok {a : List File} {m : List (ByteArray × List UInt8)} (ha : TellsS m a) (hsz : ∀ f ∈ a, f.name.size ≤ 1000000) (hlen : a.length ≤ 1000000) {b : Nat} {fl : Bool} : AC Try.prog 38 [.v (.map (some b))] [⟨b, fl, .map (encM Value.string bts m)⟩] (fun r n => n = [] ∧ r = strsA (namesF a)) := by
  rw [← keys_names ha]; exact order_ok m ha.nd (keys_size ha hsz) (by have := ha.len; omega)

set_option maxHeartbeats 2000000 in
theorem of_ok (a b : List File) (hla : a.length ≤ 1000) (hlb : b.length ≤ 1000) (hnsa : ∀ f ∈ a, f.name.size ≤ 1000000) (hnsb : ∀ f ∈ b, f.name.size ≤ 1000000) (hdA : ∀ f ∈ a, f.data.length ≤ 1000000) (hdb : ∀ f ∈ b, f.data.length ≤ 1000000) : AC Try.prog 17 [files a, files b] [] (fun r n => n = [] ∧ r = fcsA (OfF a b)) := by
  refine ac_of_awp (rs := [4]) (nt := 111) Try.func17 rfl rfl rfl rfl (fun w0 C0 hq => ?_)
  refine awp_seq ?_
  refine awp_region ?_
  refine r_assign rfl rfl ?_
  refine awl_nil ?_
  refine x_then ?_
  refine awp_seq ?_
  refine awp_region ?_
  refine r_move rfl rfl ?_
  refine r_callO hq rfl rfl (.cons (.ev rfl rfl) .nil) (named_ok a (by omega) hdA) rfl TF.en32 (List.nil_sublist _) rfl (fun r nobjs hr => ?_)
  obtain ⟨bx, mx, rfl, rfl, htx⟩ := hr
  refine r_move rfl rfl ?_
  refine r_callO hq rfl rfl (.cons (.ev rfl rfl) .nil) (named_ok b (by omega) hdb) rfl TF.en32 (List.nil_sublist _) rfl (fun r nobjs hr => ?_)
  obtain ⟨by_, my, rfl, rfl, hty⟩ := hr
  refine r_alloc TF.zero72 rfl (fun b5 => ?_)
  refine r_alloc TF.zero72 rfl (fun b6 => ?_)
  first | (refine r_store 0 rfl rfl rfl TF.sz72 rfl rfl rfl ?_) | (refine r_store 1 rfl rfl rfl TF.sz72 rfl rfl rfl ?_) | (refine r_store 2 rfl rfl rfl TF.sz72 rfl rfl rfl ?_) | (refine r_store 3 rfl rfl rfl TF.sz72 rfl rfl rfl ?_)
  first | (refine r_store 0 rfl rfl rfl TF.sz72 rfl rfl rfl ?_) | (refine r_store 1 rfl rfl rfl TF.sz72 rfl rfl rfl ?_) | (refine r_store 2 rfl rfl rfl TF.sz72 rfl rfl rfl ?_) | (refine r_store 3 rfl rfl rfl TF.sz72 rfl rfl rfl ?_)
  refine awl_nil ?_
  refine x_then ?_
  refine awp_seq ?_
  refine awp_imp (imp_commit 0 6 rfl rfl rfl rfl) ?_
  refine awp_imp (imp_commit 0 5 rfl rfl rfl rfl) ?_
  refine awp_imp (imp_perm (List.Perm.swap _ _ _)) ?_
  have hwl := went_len a b
  have hnl := names_len a
  refine awp_drawS [24, 25, 26, 27, 28] [_, _, _, _, _] [] [] TF.mixed rfl rfl rfl ⟨⟨⟨⟨⟨trivial
    , ⟨_, rfl, fun sl hd hr ho => by
        first | (refine r_load1 (hr 5 _ rfl rfl rfl) TF.agg72 rfl ?_) | (refine r_load1b 0 (hr 5 _ rfl rfl rfl) rfl rfl TF.agg72 rfl ?_) | (refine r_load1b 1 (hr 5 _ rfl rfl rfl) rfl rfl TF.agg72 rfl ?_) | (refine r_load1b 2 (hr 5 _ rfl rfl rfl) rfl rfl TF.agg72 rfl ?_) | (refine r_load1b 3 (hr 5 _ rfl rfl rfl) rfl rfl TF.agg72 rfl ?_)
        exact awl_nil ⟨rfl, post_put⟩⟩⟩
    , ⟨_, rfl, fun sl hd hr ho => by
        first | (refine r_load1 (hr 6 _ rfl rfl rfl) TF.agg72 rfl ?_) | (refine r_load1b 0 (hr 6 _ rfl rfl rfl) rfl rfl TF.agg72 rfl ?_) | (refine r_load1b 1 (hr 6 _ rfl rfl rfl) rfl rfl TF.agg72 rfl ?_) | (refine r_load1b 2 (hr 6 _ rfl rfl rfl) rfl rfl TF.agg72 rfl ?_) | (refine r_load1b 3 (hr 6 _ rfl rfl rfl) rfl rfl TF.agg72 rfl ?_)
        exact awl_nil ⟨rfl, post_put⟩⟩⟩
    , ⟨_, rfl, fun sl hd hr ho => by
        refine r_callO hq rfl rfl (.cons (.ev (hd 0 _ rfl rfl rfl) rfl) (.cons (.ev (hd 1 _ rfl rfl rfl) rfl) .nil)) (withoutW_ok htx hty hnsa (by omega)) rfl TF.en33 (List.Sublist.refl _) rfl (fun r nobjs hr => ?_)
        obtain ⟨rfl, rfl⟩ := hr
        exact awl_nil ⟨rfl, post_put⟩⟩⟩
    , ⟨_, rfl, fun sl hd hr ho => by
        first | (refine r_load1 (hr 6 _ rfl rfl rfl) TF.agg72 rfl ?_) | (refine r_load1b 0 (hr 6 _ rfl rfl rfl) rfl rfl TF.agg72 rfl ?_) | (refine r_load1b 1 (hr 6 _ rfl rfl rfl) rfl rfl TF.agg72 rfl ?_) | (refine r_load1b 2 (hr 6 _ rfl rfl rfl) rfl rfl TF.agg72 rfl ?_) | (refine r_load1b 3 (hr 6 _ rfl rfl rfl) rfl rfl TF.agg72 rfl ?_)
        exact awl_nil ⟨rfl, post_put⟩⟩⟩
    , ⟨_, rfl, fun sl hd hr ho => by
        first | (refine r_load1 (hr 5 _ rfl rfl rfl) TF.agg72 rfl ?_) | (refine r_load1b 0 (hr 5 _ rfl rfl rfl) rfl rfl TF.agg72 rfl ?_) | (refine r_load1b 1 (hr 5 _ rfl rfl rfl) rfl rfl TF.agg72 rfl ?_) | (refine r_load1b 2 (hr 5 _ rfl rfl rfl) rfl rfl TF.agg72 rfl ?_) | (refine r_load1b 3 (hr 5 _ rfl rfl rfl) rfl rfl TF.agg72 rfl ?_)
        exact awl_nil ⟨rfl, post_put⟩⟩⟩
    (by rfl) ?_
  refine r_callO hq rfl rfl (.cons (.ev rfl rfl) (.cons (.ev rfl rfl) .nil)) ((withoutX_ok hty htx hnsb (by omega)).swap) rfl TF.en33 (List.Sublist.refl _) rfl (fun r nobjs hr => ?_)
  rcases hr with ⟨h0, rfl, rfl⟩ | ⟨g2, cap, ext, hcap, rfl, rfl⟩
  
  ·
    refine r_assign rfl rfl ?_
    refine r_assign rfl rfl ?_
    refine awl_nil ?_
    refine x_then ?_
    refine awp_seq ?_
    refine awp_region ?_
    refine r_assign rfl rfl ?_
    refine r_assign rfl rfl ?_
    refine awl_nil ?_
    refine x_then ?_
    refine awp_seq ?_
    refine awp_seq ?_
    refine awp_region ?_
    refine r_move rfl rfl ?_
    first | (refine r_lenS rfl rfl TF.sl74 rfl ?_) | (refine r_lenNil rfl TF.sl74 rfl ?_) | (refine r_lenV rfl TF.sl74 rfl ?_)
    refine r_move rfl rfl ?_
    refine awl_nil ?_
    refine x_then ?_
    refine awp_block ?_
    refine awp_loop (fun nn0 S => ∃ k : Nat, ∃ gone : List FC, S = ⟨111, [(5, .a (.cp [.v (.map (some bx))])), (6, .a (.cp [.v (.map (some by_))])), (8, .a (.v (.slice none 0 0))), (9, .own 9 4 (([] : List FC).map FC.cs)), (10, .own 10 4 (gone.map FC.cs)), (30, .a (strsA (wentF a b))), (31, .a (.v (.int .i64 (((wentF a b).map (fun s : ByteArray => [AV.v (.string s)])).length)))), (32, .a (.v (.int .i64 ((k : Int)))))], [⟨bx, true, .map (encM Value.string bts mx)⟩, ⟨by_, true, .map (encM Value.string bts my)⟩]⟩ ∧ nn0 = (wentF a b).length - k ∧ (k ≤ (wentF a b).length) ∧ (splitF a b k = (([] : List ByteArray), ([] : List FC), gone)) ∧ (gone.length ≤ k)) ((wentF a b).length - (0)) ⟨111, [(5, .a (.cp [.v (.map (some bx))])), (6, .a (.cp [.v (.map (some by_))])), (8, .a (.v (.slice none 0 0))), (9, .own 9 4 (([] : List FC).map FC.cs)), (10, .own 10 4 (([]).map FC.cs)), (30, .a (strsA (wentF a b))), (31, .a (.v (.int .i64 (((wentF a b).map (fun s : ByteArray => [AV.v (.string s)])).length)))), (32, .a (.v (.int .i64 (((0) : Int)))))], [⟨bx, true, .map (encM Value.string bts mx)⟩, ⟨by_, true, .map (encM Value.string bts my)⟩]⟩ ⟨rfl, (Slots.cons rfl (by first | exact .refl _ | exact .nilOwn _ _ | exact .nilSl _ | exact .ownSl _ _ _  | exact SV.le.of_eq (by simp)) (Slots.cons rfl (by first | exact .refl _ | exact .nilOwn _ _ | exact .nilSl _ | exact .ownSl _ _ _  | exact SV.le.of_eq (by simp)) (Slots.cons rfl (by first | exact .refl _ | exact .nilOwn _ _ | exact .nilSl _ | exact .ownSl _ _ _  | exact SV.le.of_eq (by simp)) (Slots.cons rfl (by first | exact .refl _ | exact .nilOwn _ _ | exact .nilSl _ | exact .ownSl _ _ _  | exact SV.le.of_eq (by simp)) (Slots.cons rfl (by first | exact .refl _ | exact .nilOwn _ _ | exact .nilSl _ | exact .ownSl _ _ _  | exact SV.le.of_eq (by simp)) (Slots.cons rfl (by first | exact .refl _ | exact .nilOwn _ _ | exact .nilSl _ | exact .ownSl _ _ _  | exact SV.le.of_eq (by simp)) (Slots.cons rfl (by first | exact .refl _ | exact .nilOwn _ _ | exact .nilSl _ | exact .ownSl _ _ _  | exact SV.le.of_eq (by simp)) (Slots.cons rfl (by first | exact .refl _ | exact .nilOwn _ _ | exact .nilSl _ | exact .ownSl _ _ _  | exact SV.le.of_eq (by simp)) Slots.nil)))))))), (by first | exact List.Sublist.refl _ | exact .cons_cons _ (.cons _ (.refl _)) | exact List.nil_sublist _ | exact .cons _ (.refl _) | exact .cons _ (.cons _ (.refl _)) | exact .cons _ (.cons _ (.cons _ (.refl _))) | exact .cons _ (.cons _ (.cons _ (.cons _ (.refl _)))) | exact .cons_cons _ (List.nil_sublist _))⟩ ⟨0, [], rfl, rfl, Nat.zero_le _, (by rw [splitF, h0]; rfl), (by simp)⟩ ?_
    rintro nn0 _ ⟨k, gone, rfl, rfl, hk, hst, hgl⟩
    refine awp_seq ?_
    refine awp_region ?_
    refine r_cmp rfl rfl rfl rfl ?_
    refine awl_nil ?_
    refine x_then ?_
    refine awp_seq ?_
    refine awp_cond rfl (fun hc0 => ?_) (fun hc0 => ?_)
    ·
      have hltx : k < (wentF a b).length := by have := of_decide_eq_true hc0; simpa using this
      obtain ⟨x, hx⟩ := get_lt hltx
      refine awp_skip ?_
      refine x_then ?_
      refine awp_seq ?_
      refine awp_block ?_
      refine awp_seq ?_
      refine awp_region ?_
      refine r_index rfl rfl rfl TF.sl74 TF.sz9 (by omega) (get_map hx) rfl ?_
      first | (refine r_load1 rfl TF.agg9 rfl ?_) | (refine r_load1b 0 rfl rfl rfl TF.agg9 rfl ?_) | (refine r_load1b 1 rfl rfl rfl TF.agg9 rfl ?_)
      refine r_alloc TF.zero9 rfl (fun b12 => ?_)
      first | (refine r_store 0 rfl rfl rfl TF.sz9 rfl rfl rfl ?_) | (refine r_store 1 rfl rfl rfl TF.sz9 rfl rfl rfl ?_) | (refine r_store 2 rfl rfl rfl TF.sz9 rfl rfl rfl ?_)
      refine awl_nil ?_
      refine x_then ?_
      refine awp_seq ?_
      refine awp_region ?_
      refine awl_imp (imp_commit 0 12 rfl rfl rfl rfl) ?_
      refine r_move rfl rfl ?_
      refine r_makeFunc rfl (.cons (.ev rfl rfl) (.cons (.ev rfl rfl) (.cons (.ev rfl rfl) .nil))) rfl ?_
      refine r_call0 hq rfl rfl (.cons (.ev rfl rfl) (.cons (.ev rfl rfl) .nil)) (idxN_ok) rfl TF.en34 rfl (fun r hr => ?_)
      obtain rfl := hr
      refine r_assign rfl rfl ?_
      refine awl_nil ?_
      refine x_then ?_
      refine awp_seq ?_
      refine awp_seq ?_
      refine awp_region ?_
      refine r_move rfl rfl ?_
      refine r_cmp rfl rfl rfl rfl ?_
      refine awl_nil ?_
      refine x_then ?_
      refine awp_cond rfl (fun hc1 => ?_) (fun hc1 => ?_)
      ·
        refine awp_seq ?_
        refine awp_region ?_
        refine r_move rfl rfl ?_
        first | (refine r_load1 rfl TF.agg9 rfl ?_) | (refine r_load1b 0 rfl rfl rfl TF.agg9 rfl ?_) | (refine r_load1b 1 rfl rfl rfl TF.agg9 rfl ?_) | (refine r_load1b 2 rfl rfl rfl TF.agg9 rfl ?_)
        refine r_build (parts := [(0, .const ((Go.Value.int Go.IntKind.i64 2))), (1, .tmp 42)]) rfl TF.pl44 TF.zero44 rfl rfl rfl ?_
        refine r_lit 44 (parts := [(0, .tmp 43)]) rfl TF.sl39 TF.sz44 TF.zraw44 rfl rfl rfl rfl rfl rfl rfl ?_
        refine r_append 10 rfl (by first | exact .own _ | exact .nil) rfl (by first | exact .sl _ | exact .own _ _ | exact .nil) TF.sl39 TF.sz44 (by decide) TF.by44 TF.zlen44 (by simp [chunks] <;> omega) (by simp [chunks] <;> omega) rfl ?_
        refine r_assign rfl rfl ?_
        refine awl_nil ?_
        refine x_then ?_
        refine awp_exit ?_
        refine x_thenE ?_
        refine x_blockE ?_
        refine x_then ?_
        refine awp_region ?_
        refine r_ari _ rfl rfl rfl (wrap_id (by first | omega | (simp; omega))) rfl ?_
        refine r_move rfl rfl ?_
        refine awl_nil ?_
        refine x_then ?_
        refine ⟨(wentF a b).length - (k + 1), ⟨111, [(5, .a (.cp [.v (.map (some bx))])), (6, .a (.cp [.v (.map (some by_))])), (8, .a (.v (.slice none 0 0))), (9, .own 9 4 (([] : List FC).map FC.cs)), (10, .own 10 4 ((gone ++ [(⟨2, x, E0, []⟩ : FC)]).map FC.cs)), (30, .a (strsA (wentF a b))), (31, .a (.v (.int .i64 (((wentF a b).map (fun s : ByteArray => [AV.v (.string s)])).length)))), (32, .a (.v (.int .i64 (((k + 1) : Int)))))], [⟨bx, true, .map (encM Value.string bts mx)⟩, ⟨by_, true, .map (encM Value.string bts my)⟩]⟩, ⟨rfl, (Slots.cons rfl (by first | exact .refl _ | exact .nilOwn _ _ | exact .nilSl _ | exact .ownSl _ _ _  | exact SV.le.ownEq (by first | rfl | (rw [List.map_append]; rfl) | (simp [List.map_append]; done)) | exact SV.le.of_eq (by first | rfl | (rw [List.map_append]; rfl) | (simp [List.map_append]; done))) (Slots.cons rfl (by first | exact .refl _ | exact .nilOwn _ _ | exact .nilSl _ | exact .ownSl _ _ _  | exact SV.le.ownEq (by first | rfl | (rw [List.map_append]; rfl) | (simp [List.map_append]; done)) | exact SV.le.of_eq (by first | rfl | (rw [List.map_append]; rfl) | (simp [List.map_append]; done))) (Slots.cons rfl (by first | exact .refl _ | exact .nilOwn _ _ | exact .nilSl _ | exact .ownSl _ _ _  | exact SV.le.ownEq (by first | rfl | (rw [List.map_append]; rfl) | (simp [List.map_append]; done)) | exact SV.le.of_eq (by first | rfl | (rw [List.map_append]; rfl) | (simp [List.map_append]; done))) (Slots.cons rfl (by first | exact .refl _ | exact .nilOwn _ _ | exact .nilSl _ | exact .ownSl _ _ _  | exact SV.le.ownEq (by first | rfl | (rw [List.map_append]; rfl) | (simp [List.map_append]; done)) | exact SV.le.of_eq (by first | rfl | (rw [List.map_append]; rfl) | (simp [List.map_append]; done))) (Slots.cons rfl (by first | exact .refl _ | exact .nilOwn _ _ | exact .nilSl _ | exact .ownSl _ _ _  | exact SV.le.ownEq (by first | rfl | (rw [List.map_append]; rfl) | (simp [List.map_append]; done)) | exact SV.le.of_eq (by first | rfl | (rw [List.map_append]; rfl) | (simp [List.map_append]; done))) (Slots.cons rfl (by first | exact .refl _ | exact .nilOwn _ _ | exact .nilSl _ | exact .ownSl _ _ _  | exact SV.le.ownEq (by first | rfl | (rw [List.map_append]; rfl) | (simp [List.map_append]; done)) | exact SV.le.of_eq (by first | rfl | (rw [List.map_append]; rfl) | (simp [List.map_append]; done))) (Slots.cons rfl (by first | exact .refl _ | exact .nilOwn _ _ | exact .nilSl _ | exact .ownSl _ _ _  | exact SV.le.ownEq (by first | rfl | (rw [List.map_append]; rfl) | (simp [List.map_append]; done)) | exact SV.le.of_eq (by first | rfl | (rw [List.map_append]; rfl) | (simp [List.map_append]; done))) (Slots.cons rfl (by first | exact .refl _ | exact .nilOwn _ _ | exact .nilSl _ | exact .ownSl _ _ _  | exact SV.le.ownEq (by first | rfl | (rw [List.map_append]; rfl) | (simp [List.map_append]; done)) | exact SV.le.of_eq (by first | rfl | (rw [List.map_append]; rfl) | (simp [List.map_append]; done))) Slots.nil)))))))), (by first | exact List.Sublist.refl _ | exact .cons_cons _ (.cons _ (.refl _)) | exact List.nil_sublist _ | exact .cons _ (.refl _) | exact .cons _ (.cons _ (.refl _)) | exact .cons _ (.cons _ (.cons _ (.refl _))) | exact .cons _ (.cons _ (.cons _ (.cons _ (.refl _)))) | exact .cons_cons _ (List.nil_sublist _))⟩, (by omega), ⟨k + 1, gone ++ [(⟨2, x, E0, []⟩ : FC)], rfl, rfl, (by omega), (split_none hx hst rfl), (by simp; omega)⟩⟩
      ·
        exfalso; exact absurd hc1 (by decide)
    ·
      have hge : (wentF a b).length ≤ k := by have := of_decide_eq_false hc0; simp at this; omega
      obtain rfl : k = (wentF a b).length := by omega
      refine awp_exit ?_
      refine x_thenE ?_
      refine x_thenE ?_
      refine x_blockE ?_
      refine x_then ?_
      refine awp_seq ?_
      refine awp_region ?_
      refine r_move rfl rfl ?_
      refine r_move rfl rfl ?_
      refine r_append 9 rfl (by first | exact .own _ | exact .nil) rfl (by first | exact .sl _ | exact .own _ _ | exact .nil) TF.sl39 TF.sz44 (by decide) TF.by44 TF.zlen44 (by simp [chunks] <;> omega) (by simp [chunks] <;> omega) rfl ?_
      refine r_assign rfl rfl ?_
      refine awl_nil ?_
      refine x_then ?_
      refine awp_seq ?_
      refine awp_seq ?_
      refine awp_region ?_
      first | (refine r_load1 rfl TF.agg72 rfl ?_) | (refine r_load1b 0 rfl rfl rfl TF.agg72 rfl ?_) | (refine r_load1b 1 rfl rfl rfl TF.agg72 rfl ?_)
      refine r_callO hq rfl rfl (.cons (.ev rfl rfl) .nil) (orderN_ok htx hnsa (by omega)) rfl TF.en38 (.cons_cons _ (List.nil_sublist _)) rfl (fun r nobjs hr => ?_)
      obtain ⟨rfl, rfl⟩ := hr
      first | (refine r_lenS rfl rfl TF.sl74 rfl ?_) | (refine r_lenNil rfl TF.sl74 rfl ?_) | (refine r_lenV rfl TF.sl74 rfl ?_)
      refine r_move rfl rfl ?_
      refine awl_nil ?_
      refine x_then ?_
      refine awp_block ?_
      refine awp_loop (fun nn0 S => ∃ k : Nat, S = ⟨111, [(5, .a (.cp [.v (.map (some bx))])), (6, .a (.cp [.v (.map (some by_))])), (8, .a (.v (.slice none 0 0))), (9, .own 9 4 ((gone ++ ((namesF a).take k).filterMap (chgF a b)).map FC.cs)), (65, .a (strsA (namesF a))), (66, .a (.v (.int .i64 (((namesF a).map (fun s : ByteArray => [AV.v (.string s)])).length)))), (67, .a (.v (.int .i64 ((k : Int)))))], [⟨bx, true, .map (encM Value.string bts mx)⟩, ⟨by_, true, .map (encM Value.string bts my)⟩]⟩ ∧ nn0 = (namesF a).length - k ∧ (k ≤ (namesF a).length)) ((namesF a).length - (0)) ⟨111, [(5, .a (.cp [.v (.map (some bx))])), (6, .a (.cp [.v (.map (some by_))])), (8, .a (.v (.slice none 0 0))), (9, .own 9 4 ((gone ++ ((namesF a).take (0)).filterMap (chgF a b)).map FC.cs)), (65, .a (strsA (namesF a))), (66, .a (.v (.int .i64 (((namesF a).map (fun s : ByteArray => [AV.v (.string s)])).length)))), (67, .a (.v (.int .i64 (((0) : Int)))))], [⟨bx, true, .map (encM Value.string bts mx)⟩, ⟨by_, true, .map (encM Value.string bts my)⟩]⟩ ⟨rfl, (Slots.cons rfl (by first | exact .refl _ | exact .nilOwn _ _ | exact .nilSl _ | exact .ownSl _ _ _  | exact SV.le.ownEq (by simp [chunks]) | exact SV.le.of_eq (by simp [chunks])) (Slots.cons rfl (by first | exact .refl _ | exact .nilOwn _ _ | exact .nilSl _ | exact .ownSl _ _ _  | exact SV.le.ownEq (by simp [chunks]) | exact SV.le.of_eq (by simp [chunks])) (Slots.cons rfl (by first | exact .refl _ | exact .nilOwn _ _ | exact .nilSl _ | exact .ownSl _ _ _  | exact SV.le.ownEq (by simp [chunks]) | exact SV.le.of_eq (by simp [chunks])) (Slots.cons rfl (by first | exact .refl _ | exact .nilOwn _ _ | exact .nilSl _ | exact .ownSl _ _ _  | exact SV.le.ownEq (by simp [chunks]) | exact SV.le.of_eq (by simp [chunks])) (Slots.cons rfl (by first | exact .refl _ | exact .nilOwn _ _ | exact .nilSl _ | exact .ownSl _ _ _  | exact SV.le.ownEq (by simp [chunks]) | exact SV.le.of_eq (by simp [chunks])) (Slots.cons rfl (by first | exact .refl _ | exact .nilOwn _ _ | exact .nilSl _ | exact .ownSl _ _ _  | exact SV.le.ownEq (by simp [chunks]) | exact SV.le.of_eq (by simp [chunks])) (Slots.cons rfl (by first | exact .refl _ | exact .nilOwn _ _ | exact .nilSl _ | exact .ownSl _ _ _  | exact SV.le.ownEq (by simp [chunks]) | exact SV.le.of_eq (by simp [chunks])) Slots.nil))))))), (by first | exact List.Sublist.refl _ | exact .cons_cons _ (.cons _ (.refl _)) | exact List.nil_sublist _ | exact .cons _ (.refl _) | exact .cons _ (.cons _ (.refl _)) | exact .cons _ (.cons _ (.cons _ (.refl _))) | exact .cons _ (.cons _ (.cons _ (.cons _ (.refl _)))) | exact .cons_cons _ (List.nil_sublist _))⟩ ⟨0, rfl, rfl, Nat.zero_le _⟩ ?_
      rintro nn0 _ ⟨k, rfl, rfl, hk1⟩
      refine awp_seq ?_
      refine awp_region ?_
      refine r_cmp rfl rfl rfl rfl ?_
      refine awl_nil ?_
      refine x_then ?_
      refine awp_seq ?_
      refine awp_cond rfl (fun hc2 => ?_) (fun hc2 => ?_)
      ·
        have hltx : k < (namesF a).length := by have := of_decide_eq_true hc2; simpa using this
        obtain ⟨x, hx⟩ := get_lt hltx
        have hf1 : (((namesF a).take k).filterMap (chgF a b)).length ≤ k := Nat.le_trans (List.length_filterMap_le _ _) (by simp; omega)
        refine awp_skip ?_
        refine x_then ?_
        refine awp_seq ?_
        refine awp_block ?_
        refine awp_seq ?_
        refine awp_region ?_
        refine r_index rfl rfl rfl TF.sl74 TF.sz9 (by omega) (get_map hx) rfl ?_
        first | (refine r_load1 rfl TF.agg9 rfl ?_) | (refine r_load1b 0 rfl rfl rfl TF.agg9 rfl ?_) | (refine r_load1b 1 rfl rfl rfl TF.agg9 rfl ?_)
        refine r_assign rfl rfl ?_
        refine awl_nil ?_
        refine x_then ?_
        refine awp_seq ?_
        refine awp_region ?_
        first | (refine r_load1 rfl TF.agg72 rfl ?_) | (refine r_load1b 0 rfl rfl rfl TF.agg72 rfl ?_) | (refine r_load1b 1 rfl rfl rfl TF.agg72 rfl ?_)
        refine r_move rfl rfl ?_
        first | (refine r_lookupOk 0 (keyEnc_string TF.un9) (ev := bts) [] rfl rfl rfl TF.map72 TF.zavS rfl ?_) | (refine r_lookupOk 1 (keyEnc_string TF.un9) (ev := bts) [] rfl rfl rfl TF.map72 TF.zavS rfl ?_)
        refine r_move rfl rfl ?_
        refine r_extract rfl rfl rfl ?_
        refine r_extract rfl rfl rfl ?_
        refine r_assign rfl rfl ?_
        refine r_assign rfl rfl ?_
        refine awl_nil ?_
        refine x_then ?_
        refine awp_seq ?_
        refine awp_region ?_
        refine r_move rfl rfl ?_
        refine r_move rfl rfl ?_
        refine g_cases (t' := 78) rfl (fun hg78 => ?_) (fun hg78 => ?_)
        ·
          obtain ⟨d, hdq⟩ : ∃ d, mget my x = some d := Option.isSome_iff_exists.1 hg78
          have hq2 : lookF b x = some d := by rw [← hty.get, hdq]
          refine g_run rfl rfl hg78 ?_
          first | (refine r_load1 rfl TF.agg72 rfl ?_) | (refine r_load1b 0 rfl rfl rfl TF.agg72 rfl ?_) | (refine r_load1b 1 rfl rfl rfl TF.agg72 rfl ?_)
          refine g_run rfl rfl hg78 ?_
          refine r_move rfl rfl ?_
          refine g_run rfl rfl hg78 ?_
          first | (refine r_lookup 0 (keyEnc_string TF.un9) (ev := bts) [] rfl rfl rfl TF.map72 TF.zavS rfl ?_) | (refine r_lookup 1 (keyEnc_string TF.un9) (ev := bts) [] rfl rfl rfl TF.map72 TF.zavS rfl ?_)
          refine g_run rfl rfl hg78 ?_
          refine r_move rfl rfl ?_
          refine g_run rfl rfl hg78 ?_
          refine r_call0 hq rfl rfl (.cons (.ev rfl rfl) (.cons (.ev rfl rfl) .nil)) (equal_ok _ _) rfl TF.en36 rfl (fun r hr => ?_)
          obtain rfl := hr
          refine g_run rfl rfl hg78 ?_
          refine r_not rfl rfl ?_
          refine r_pickT rfl hg78 rfl rfl ?_
          refine awl_nil ?_
          refine x_then ?_
          refine awp_cond rfl (fun hc3 => ?_) (fun hc3 => ?_)
          ·
            rw [hdq] at hc3 ⊢
            have hne : decide ((lookF a x).getD [] = d) = false := by rw [← htx.get]; simpa using hc3
            have ht : chgF a b x = some ⟨3, x, E0, d⟩ := by rw [chgF, hq2]; simp only [hne, cond_false]
            have hdl : d.length ≤ 1000000 := by have := look_len hdb x; rw [hq2] at this; simpa using this
            refine awp_region ?_
            refine r_move rfl rfl ?_
            refine r_move rfl rfl ?_
            refine r_move rfl rfl ?_
            refine r_call0 hq rfl rfl (.cons (.ev rfl rfl) .nil) (clone_ok d hdl) rfl TF.en39 rfl (fun r hr => ?_)
            obtain rfl := hr
            refine r_build (parts := [(0, .const ((Go.Value.int Go.IntKind.i64 3))), (1, .tmp 87), (3, .tmp 89)]) rfl TF.pl44 TF.zero44 rfl rfl rfl ?_
            refine r_lit 91 (parts := [(0, .tmp 90)]) rfl TF.sl39 TF.sz44 TF.zraw44 rfl rfl rfl rfl rfl rfl rfl ?_
            refine r_append 9 rfl (by first | exact .own _ | exact .nil) rfl (by first | exact .sl _ | exact .own _ _ | exact .nil) TF.sl39 TF.sz44 (by decide) TF.by44 TF.zlen44 (by simp [chunks] <;> omega) (by simp [chunks] <;> omega) rfl ?_
            refine r_assign rfl rfl ?_
            refine awl_nil ?_
            refine x_block ?_
            refine x_then ?_
            refine awp_region ?_
            refine r_ari _ rfl rfl rfl (wrap_id (by first | omega | (simp; omega))) rfl ?_
            refine r_move rfl rfl ?_
            refine awl_nil ?_
            refine x_then ?_
            have et := fmS_step (f := chgF a b) hx
            rw [ht] at et
            simp only [Option.toList_some, Option.toList_none, List.append_nil] at et
            refine ⟨(namesF a).length - (k + 1), ⟨111, [(5, .a (.cp [.v (.map (some bx))])), (6, .a (.cp [.v (.map (some by_))])), (8, .a (.v (.slice none 0 0))), (9, .own 9 4 ((gone ++ ((namesF a).take (k + 1)).filterMap (chgF a b)).map FC.cs)), (65, .a (strsA (namesF a))), (66, .a (.v (.int .i64 (((namesF a).map (fun s : ByteArray => [AV.v (.string s)])).length)))), (67, .a (.v (.int .i64 (((k + 1) : Int)))))], [⟨bx, true, .map (encM Value.string bts mx)⟩, ⟨by_, true, .map (encM Value.string bts my)⟩]⟩, ⟨rfl, (Slots.cons rfl (by first | exact .refl _ | exact .nilOwn _ _ | exact .nilSl _ | exact .ownSl _ _ _  | exact SV.le.ownEq (by first | rfl | (rw [et, ← List.append_assoc gone, List.map_append (l₁ := (gone ++ ((namesF a).take k).filterMap (chgF a b)))]; rfl) | (rw [et]; first | done | rfl)) | exact SV.le.of_eq (by first | rfl | (rw [et, ← List.append_assoc gone, List.map_append (l₁ := (gone ++ ((namesF a).take k).filterMap (chgF a b)))]; rfl) | (rw [et]; first | done | rfl))) (Slots.cons rfl (by first | exact .refl _ | exact .nilOwn _ _ | exact .nilSl _ | exact .ownSl _ _ _  | exact SV.le.ownEq (by first | rfl | (rw [et, ← List.append_assoc gone, List.map_append (l₁ := (gone ++ ((namesF a).take k).filterMap (chgF a b)))]; rfl) | (rw [et]; first | done | rfl)) | exact SV.le.of_eq (by first | rfl | (rw [et, ← List.append_assoc gone, List.map_append (l₁ := (gone ++ ((namesF a).take k).filterMap (chgF a b)))]; rfl) | (rw [et]; first | done | rfl))) (Slots.cons rfl (by first | exact .refl _ | exact .nilOwn _ _ | exact .nilSl _ | exact .ownSl _ _ _  | exact SV.le.ownEq (by first | rfl | (rw [et, ← List.append_assoc gone, List.map_append (l₁ := (gone ++ ((namesF a).take k).filterMap (chgF a b)))]; rfl) | (rw [et]; first | done | rfl)) | exact SV.le.of_eq (by first | rfl | (rw [et, ← List.append_assoc gone, List.map_append (l₁ := (gone ++ ((namesF a).take k).filterMap (chgF a b)))]; rfl) | (rw [et]; first | done | rfl))) (Slots.cons rfl (by first | exact .refl _ | exact .nilOwn _ _ | exact .nilSl _ | exact .ownSl _ _ _  | exact SV.le.ownEq (by first | rfl | (rw [et, ← List.append_assoc gone, List.map_append (l₁ := (gone ++ ((namesF a).take k).filterMap (chgF a b)))]; rfl) | (rw [et]; first | done | rfl)) | exact SV.le.of_eq (by first | rfl | (rw [et, ← List.append_assoc gone, List.map_append (l₁ := (gone ++ ((namesF a).take k).filterMap (chgF a b)))]; rfl) | (rw [et]; first | done | rfl))) (Slots.cons rfl (by first | exact .refl _ | exact .nilOwn _ _ | exact .nilSl _ | exact .ownSl _ _ _  | exact SV.le.ownEq (by first | rfl | (rw [et, ← List.append_assoc gone, List.map_append (l₁ := (gone ++ ((namesF a).take k).filterMap (chgF a b)))]; rfl) | (rw [et]; first | done | rfl)) | exact SV.le.of_eq (by first | rfl | (rw [et, ← List.append_assoc gone, List.map_append (l₁ := (gone ++ ((namesF a).take k).filterMap (chgF a b)))]; rfl) | (rw [et]; first | done | rfl))) (Slots.cons rfl (by first | exact .refl _ | exact .nilOwn _ _ | exact .nilSl _ | exact .ownSl _ _ _  | exact SV.le.ownEq (by first | rfl | (rw [et, ← List.append_assoc gone, List.map_append (l₁ := (gone ++ ((namesF a).take k).filterMap (chgF a b)))]; rfl) | (rw [et]; first | done | rfl)) | exact SV.le.of_eq (by first | rfl | (rw [et, ← List.append_assoc gone, List.map_append (l₁ := (gone ++ ((namesF a).take k).filterMap (chgF a b)))]; rfl) | (rw [et]; first | done | rfl))) (Slots.cons rfl (by first | exact .refl _ | exact .nilOwn _ _ | exact .nilSl _ | exact .ownSl _ _ _  | exact SV.le.ownEq (by first | rfl | (rw [et, ← List.append_assoc gone, List.map_append (l₁ := (gone ++ ((namesF a).take k).filterMap (chgF a b)))]; rfl) | (rw [et]; first | done | rfl)) | exact SV.le.of_eq (by first | rfl | (rw [et, ← List.append_assoc gone, List.map_append (l₁ := (gone ++ ((namesF a).take k).filterMap (chgF a b)))]; rfl) | (rw [et]; first | done | rfl))) Slots.nil))))))), (by first | exact List.Sublist.refl _ | exact .cons_cons _ (.cons _ (.refl _)) | exact List.nil_sublist _ | exact .cons _ (.refl _) | exact .cons _ (.cons _ (.refl _)) | exact .cons _ (.cons _ (.cons _ (.refl _))) | exact .cons _ (.cons _ (.cons _ (.cons _ (.refl _)))) | exact .cons_cons _ (List.nil_sublist _))⟩, (by omega), ⟨k + 1, rfl, rfl, (by omega)⟩⟩
          ·
            rw [hdq] at hc3
            have hne : decide ((lookF a x).getD [] = d) = true := by rw [← htx.get]; simpa using hc3
            have ht : chgF a b x = none := by rw [chgF, hq2]; simp only [hne, cond_true]
            refine awp_skip ?_
            refine x_block ?_
            refine x_then ?_
            refine awp_region ?_
            refine r_ari _ rfl rfl rfl (wrap_id (by first | omega | (simp; omega))) rfl ?_
            refine r_move rfl rfl ?_
            refine awl_nil ?_
            refine x_then ?_
            have et := fmS_step (f := chgF a b) hx
            rw [ht] at et
            simp only [Option.toList_some, Option.toList_none, List.append_nil] at et
            refine ⟨(namesF a).length - (k + 1), ⟨111, [(5, .a (.cp [.v (.map (some bx))])), (6, .a (.cp [.v (.map (some by_))])), (8, .a (.v (.slice none 0 0))), (9, .own 9 4 ((gone ++ ((namesF a).take (k + 1)).filterMap (chgF a b)).map FC.cs)), (65, .a (strsA (namesF a))), (66, .a (.v (.int .i64 (((namesF a).map (fun s : ByteArray => [AV.v (.string s)])).length)))), (67, .a (.v (.int .i64 (((k + 1) : Int)))))], [⟨bx, true, .map (encM Value.string bts mx)⟩, ⟨by_, true, .map (encM Value.string bts my)⟩]⟩, ⟨rfl, (Slots.cons rfl (by first | exact .refl _ | exact .nilOwn _ _ | exact .nilSl _ | exact .ownSl _ _ _  | exact SV.le.ownEq (by first | rfl | (rw [et, ← List.append_assoc gone, List.map_append (l₁ := (gone ++ ((namesF a).take k).filterMap (chgF a b)))]; rfl) | (rw [et]; first | done | rfl)) | exact SV.le.of_eq (by first | rfl | (rw [et, ← List.append_assoc gone, List.map_append (l₁ := (gone ++ ((namesF a).take k).filterMap (chgF a b)))]; rfl) | (rw [et]; first | done | rfl))) (Slots.cons rfl (by first | exact .refl _ | exact .nilOwn _ _ | exact .nilSl _ | exact .ownSl _ _ _  | exact SV.le.ownEq (by first | rfl | (rw [et, ← List.append_assoc gone, List.map_append (l₁ := (gone ++ ((namesF a).take k).filterMap (chgF a b)))]; rfl) | (rw [et]; first | done | rfl)) | exact SV.le.of_eq (by first | rfl | (rw [et, ← List.append_assoc gone, List.map_append (l₁ := (gone ++ ((namesF a).take k).filterMap (chgF a b)))]; rfl) | (rw [et]; first | done | rfl))) (Slots.cons rfl (by first | exact .refl _ | exact .nilOwn _ _ | exact .nilSl _ | exact .ownSl _ _ _  | exact SV.le.ownEq (by first | rfl | (rw [et, ← List.append_assoc gone, List.map_append (l₁ := (gone ++ ((namesF a).take k).filterMap (chgF a b)))]; rfl) | (rw [et]; first | done | rfl)) | exact SV.le.of_eq (by first | rfl | (rw [et, ← List.append_assoc gone, List.map_append (l₁ := (gone ++ ((namesF a).take k).filterMap (chgF a b)))]; rfl) | (rw [et]; first | done | rfl))) (Slots.cons rfl (by first | exact .refl _ | exact .nilOwn _ _ | exact .nilSl _ | exact .ownSl _ _ _  | exact SV.le.ownEq (by first | rfl | (rw [et, ← List.append_assoc gone, List.map_append (l₁ := (gone ++ ((namesF a).take k).filterMap (chgF a b)))]; rfl) | (rw [et]; first | done | rfl)) | exact SV.le.of_eq (by first | rfl | (rw [et, ← List.append_assoc gone, List.map_append (l₁ := (gone ++ ((namesF a).take k).filterMap (chgF a b)))]; rfl) | (rw [et]; first | done | rfl))) (Slots.cons rfl (by first | exact .refl _ | exact .nilOwn _ _ | exact .nilSl _ | exact .ownSl _ _ _  | exact SV.le.ownEq (by first | rfl | (rw [et, ← List.append_assoc gone, List.map_append (l₁ := (gone ++ ((namesF a).take k).filterMap (chgF a b)))]; rfl) | (rw [et]; first | done | rfl)) | exact SV.le.of_eq (by first | rfl | (rw [et, ← List.append_assoc gone, List.map_append (l₁ := (gone ++ ((namesF a).take k).filterMap (chgF a b)))]; rfl) | (rw [et]; first | done | rfl))) (Slots.cons rfl (by first | exact .refl _ | exact .nilOwn _ _ | exact .nilSl _ | exact .ownSl _ _ _  | exact SV.le.ownEq (by first | rfl | (rw [et, ← List.append_assoc gone, List.map_append (l₁ := (gone ++ ((namesF a).take k).filterMap (chgF a b)))]; rfl) | (rw [et]; first | done | rfl)) | exact SV.le.of_eq (by first | rfl | (rw [et, ← List.append_assoc gone, List.map_append (l₁ := (gone ++ ((namesF a).take k).filterMap (chgF a b)))]; rfl) | (rw [et]; first | done | rfl))) (Slots.cons rfl (by first | exact .refl _ | exact .nilOwn _ _ | exact .nilSl _ | exact .ownSl _ _ _  | exact SV.le.ownEq (by first | rfl | (rw [et, ← List.append_assoc gone, List.map_append (l₁ := (gone ++ ((namesF a).take k).filterMap (chgF a b)))]; rfl) | (rw [et]; first | done | rfl)) | exact SV.le.of_eq (by first | rfl | (rw [et, ← List.append_assoc gone, List.map_append (l₁ := (gone ++ ((namesF a).take k).filterMap (chgF a b)))]; rfl) | (rw [et]; first | done | rfl))) Slots.nil))))))), (by first | exact List.Sublist.refl _ | exact .cons_cons _ (.cons _ (.refl _)) | exact List.nil_sublist _ | exact .cons _ (.refl _) | exact .cons _ (.cons _ (.refl _)) | exact .cons _ (.cons _ (.cons _ (.refl _))) | exact .cons _ (.cons _ (.cons _ (.cons _ (.refl _)))) | exact .cons_cons _ (List.nil_sublist _))⟩, (by omega), ⟨k + 1, rfl, rfl, (by omega)⟩⟩
        ·
          have hq2 : lookF b x = none := by
            rw [← hty.get]
            cases h : mget my x with
            | none => rfl
            | some d => rw [h] at hg78; cases hg78
          have ht : chgF a b x = none := by rw [chgF, hq2]
          refine g_skip rfl rfl hg78 rfl ?_
          refine g_skip rfl rfl hg78 rfl ?_
          refine g_skip rfl rfl hg78 rfl ?_
          refine g_skip rfl rfl hg78 rfl ?_
          refine g_skip rfl rfl hg78 rfl ?_
          refine g_skip rfl rfl hg78 rfl ?_
          refine r_pickF rfl hg78 rfl rfl ?_
          refine awl_nil ?_
          refine x_then ?_
          refine awp_condF rfl ?_
          refine awp_skip ?_
          refine x_block ?_
          refine x_then ?_
          refine awp_region ?_
          refine r_ari _ rfl rfl rfl (wrap_id (by first | omega | (simp; omega))) rfl ?_
          refine r_move rfl rfl ?_
          refine awl_nil ?_
          refine x_then ?_
          have et := fmS_step (f := chgF a b) hx
          rw [ht] at et
          simp only [Option.toList_some, Option.toList_none, List.append_nil] at et
          refine ⟨(namesF a).length - (k + 1), ⟨111, [(5, .a (.cp [.v (.map (some bx))])), (6, .a (.cp [.v (.map (some by_))])), (8, .a (.v (.slice none 0 0))), (9, .own 9 4 ((gone ++ ((namesF a).take (k + 1)).filterMap (chgF a b)).map FC.cs)), (65, .a (strsA (namesF a))), (66, .a (.v (.int .i64 (((namesF a).map (fun s : ByteArray => [AV.v (.string s)])).length)))), (67, .a (.v (.int .i64 (((k + 1) : Int)))))], [⟨bx, true, .map (encM Value.string bts mx)⟩, ⟨by_, true, .map (encM Value.string bts my)⟩]⟩, ⟨rfl, (Slots.cons rfl (by first | exact .refl _ | exact .nilOwn _ _ | exact .nilSl _ | exact .ownSl _ _ _  | exact SV.le.ownEq (by first | rfl | (rw [et, ← List.append_assoc gone, List.map_append (l₁ := (gone ++ ((namesF a).take k).filterMap (chgF a b)))]; rfl) | (rw [et]; first | done | rfl)) | exact SV.le.of_eq (by first | rfl | (rw [et, ← List.append_assoc gone, List.map_append (l₁ := (gone ++ ((namesF a).take k).filterMap (chgF a b)))]; rfl) | (rw [et]; first | done | rfl))) (Slots.cons rfl (by first | exact .refl _ | exact .nilOwn _ _ | exact .nilSl _ | exact .ownSl _ _ _  | exact SV.le.ownEq (by first | rfl | (rw [et, ← List.append_assoc gone, List.map_append (l₁ := (gone ++ ((namesF a).take k).filterMap (chgF a b)))]; rfl) | (rw [et]; first | done | rfl)) | exact SV.le.of_eq (by first | rfl | (rw [et, ← List.append_assoc gone, List.map_append (l₁ := (gone ++ ((namesF a).take k).filterMap (chgF a b)))]; rfl) | (rw [et]; first | done | rfl))) (Slots.cons rfl (by first | exact .refl _ | exact .nilOwn _ _ | exact .nilSl _ | exact .ownSl _ _ _  | exact SV.le.ownEq (by first | rfl | (rw [et, ← List.append_assoc gone, List.map_append (l₁ := (gone ++ ((namesF a).take k).filterMap (chgF a b)))]; rfl) | (rw [et]; first | done | rfl)) | exact SV.le.of_eq (by first | rfl | (rw [et, ← List.append_assoc gone, List.map_append (l₁ := (gone ++ ((namesF a).take k).filterMap (chgF a b)))]; rfl) | (rw [et]; first | done | rfl))) (Slots.cons rfl (by first | exact .refl _ | exact .nilOwn _ _ | exact .nilSl _ | exact .ownSl _ _ _  | exact SV.le.ownEq (by first | rfl | (rw [et, ← List.append_assoc gone, List.map_append (l₁ := (gone ++ ((namesF a).take k).filterMap (chgF a b)))]; rfl) | (rw [et]; first | done | rfl)) | exact SV.le.of_eq (by first | rfl | (rw [et, ← List.append_assoc gone, List.map_append (l₁ := (gone ++ ((namesF a).take k).filterMap (chgF a b)))]; rfl) | (rw [et]; first | done | rfl))) (Slots.cons rfl (by first | exact .refl _ | exact .nilOwn _ _ | exact .nilSl _ | exact .ownSl _ _ _  | exact SV.le.ownEq (by first | rfl | (rw [et, ← List.append_assoc gone, List.map_append (l₁ := (gone ++ ((namesF a).take k).filterMap (chgF a b)))]; rfl) | (rw [et]; first | done | rfl)) | exact SV.le.of_eq (by first | rfl | (rw [et, ← List.append_assoc gone, List.map_append (l₁ := (gone ++ ((namesF a).take k).filterMap (chgF a b)))]; rfl) | (rw [et]; first | done | rfl))) (Slots.cons rfl (by first | exact .refl _ | exact .nilOwn _ _ | exact .nilSl _ | exact .ownSl _ _ _  | exact SV.le.ownEq (by first | rfl | (rw [et, ← List.append_assoc gone, List.map_append (l₁ := (gone ++ ((namesF a).take k).filterMap (chgF a b)))]; rfl) | (rw [et]; first | done | rfl)) | exact SV.le.of_eq (by first | rfl | (rw [et, ← List.append_assoc gone, List.map_append (l₁ := (gone ++ ((namesF a).take k).filterMap (chgF a b)))]; rfl) | (rw [et]; first | done | rfl))) (Slots.cons rfl (by first | exact .refl _ | exact .nilOwn _ _ | exact .nilSl _ | exact .ownSl _ _ _  | exact SV.le.ownEq (by first | rfl | (rw [et, ← List.append_assoc gone, List.map_append (l₁ := (gone ++ ((namesF a).take k).filterMap (chgF a b)))]; rfl) | (rw [et]; first | done | rfl)) | exact SV.le.of_eq (by first | rfl | (rw [et, ← List.append_assoc gone, List.map_append (l₁ := (gone ++ ((namesF a).take k).filterMap (chgF a b)))]; rfl) | (rw [et]; first | done | rfl))) Slots.nil))))))), (by first | exact List.Sublist.refl _ | exact .cons_cons _ (.cons _ (.refl _)) | exact List.nil_sublist _ | exact .cons _ (.refl _) | exact .cons _ (.cons _ (.refl _)) | exact .cons _ (.cons _ (.cons _ (.refl _))) | exact .cons _ (.cons _ (.cons _ (.cons _ (.refl _)))) | exact .cons_cons _ (List.nil_sublist _))⟩, (by omega), ⟨k + 1, rfl, rfl, (by omega)⟩⟩
      ·
        have hge : (namesF a).length ≤ k := by have := of_decide_eq_false hc2; simp at this; omega
        have hkl : (namesF a).take k = namesF a := List.take_of_length_le hge
        rw [hkl]
        have hf2 : ((namesF a).filterMap (chgF a b)).length ≤ (namesF a).length := List.length_filterMap_le _ _
        refine awp_exit ?_
        refine x_thenE ?_
        refine x_thenE ?_
        refine x_blockE ?_
        refine x_then ?_
        refine awp_seq ?_
        refine awp_seq ?_
        refine awp_region ?_
        refine r_move rfl rfl ?_
        first | (refine r_lenS rfl rfl TF.sl74 rfl ?_) | (refine r_lenNil rfl TF.sl74 rfl ?_) | (refine r_lenV rfl TF.sl74 rfl ?_)
        refine r_move rfl rfl ?_
        refine awl_nil ?_
        refine x_then ?_
        refine awp_block ?_
        refine awp_loop (fun nn0 S => S = ⟨111, [(9, .own 9 4 ((gone ++ (namesF a).filterMap (chgF a b)).map FC.cs)), (95, .a (.v (.int .i64 (0)))), (96, .a (.v (.int .i64 (0))))], []⟩ ∧ nn0 = 0) (0) ⟨111, [(9, .own 9 4 ((gone ++ (namesF a).filterMap (chgF a b)).map FC.cs)), (95, .a (.v (.int .i64 (0)))), (96, .a (.v (.int .i64 (0))))], []⟩ ⟨rfl, (Slots.cons rfl (by first | exact .refl _ | exact .nilOwn _ _ | exact .nilSl _ | exact .ownSl _ _ _  | exact SV.le.of_eq (by simp)) (Slots.cons rfl (by first | exact .refl _ | exact .nilOwn _ _ | exact .nilSl _ | exact .ownSl _ _ _  | exact SV.le.of_eq (by simp)) (Slots.cons rfl (by first | exact .refl _ | exact .nilOwn _ _ | exact .nilSl _ | exact .ownSl _ _ _  | exact SV.le.of_eq (by simp)) Slots.nil))), (by first | exact List.Sublist.refl _ | exact .cons_cons _ (.cons _ (.refl _)) | exact List.nil_sublist _ | exact .cons _ (.refl _) | exact .cons _ (.cons _ (.refl _)) | exact .cons _ (.cons _ (.cons _ (.refl _))) | exact .cons _ (.cons _ (.cons _ (.cons _ (.refl _)))) | exact .cons_cons _ (List.nil_sublist _))⟩ ⟨rfl, rfl⟩ ?_
        rintro nn0 _ ⟨rfl, rfl⟩
        refine awp_seq ?_
        refine awp_region ?_
        refine r_cmp rfl rfl rfl rfl ?_
        refine awl_nil ?_
        refine x_then ?_
        refine awp_seq ?_
        refine awp_cond rfl (fun hc4 => ?_) (fun hc4 => ?_)
        ·
          exfalso; exact absurd hc4 (by decide)
        ·
          refine awp_exit ?_
          refine x_thenE ?_
          refine x_thenE ?_
          refine x_blockE ?_
          refine x_then ?_
          refine awp_seq ?_
          refine awp_region ?_
          refine r_move rfl rfl ?_
          refine r_assign rfl rfl ?_
          refine awl_nil ?_
          refine x_then ?_
          refine awp_ret ?_
          exact ⟨(.inl rfl), _, [], (.one (by first | exact .mk rfl rfl | exact .nil rfl)), ⟨rfl, by rw [OfF, show splitE a b = ([], [], gone) from hst]; simp [fcsA, SV.av]⟩, (List.nil_sublist _), (by simp)⟩
  ·
    refine r_assign rfl rfl ?_
    refine r_assign rfl rfl ?_
    refine awl_nil ?_
    refine x_then ?_
    refine awp_seq ?_
    refine awp_region ?_
    refine r_assign rfl rfl ?_
    refine r_assign rfl rfl ?_
    refine awl_nil ?_
    refine x_then ?_
    refine awp_seq ?_
    refine awp_seq ?_
    refine awp_region ?_
    refine r_move rfl rfl ?_
    first | (refine r_lenS rfl rfl TF.sl74 rfl ?_) | (refine r_lenNil rfl TF.sl74 rfl ?_) | (refine r_lenV rfl TF.sl74 rfl ?_)
    refine r_move rfl rfl ?_
    refine awl_nil ?_
    refine x_then ?_
    refine awp_block ?_
    refine awp_loop (fun nn0 S => ∃ k : Nat, ∃ came : List ByteArray, ∃ out : List FC, ∃ gone : List FC, ∃ ext : List AV, S = ⟨111, [(5, .a (.cp [.v (.map (some bx))])), (6, .a (.cp [.v (.map (some by_))])), (8, .a (.v (.slice (some ⟨g2, 0, none⟩) came.length cap))), (9, .own 9 4 (out.map FC.cs)), (10, .own 10 4 (gone.map FC.cs)), (30, .a (strsA (wentF a b))), (31, .a (.v (.int .i64 (((wentF a b).map (fun s : ByteArray => [AV.v (.string s)])).length)))), (32, .a (.v (.int .i64 ((k : Int)))))], [⟨g2, true, .box (strsC came ++ ext)⟩, ⟨bx, true, .map (encM Value.string bts mx)⟩, ⟨by_, true, .map (encM Value.string bts my)⟩]⟩ ∧ nn0 = (wentF a b).length - k ∧ (k ≤ (wentF a b).length) ∧ (splitF a b k = (came, out, gone)) ∧ (cap = came.length + ext.length) ∧ (out.length ≤ k) ∧ (gone.length ≤ k) ∧ (came.length ≤ 1000)) ((wentF a b).length - (0)) ⟨111, [(5, .a (.cp [.v (.map (some bx))])), (6, .a (.cp [.v (.map (some by_))])), (8, .a (.v (.slice (some ⟨g2, 0, none⟩) ((wentF b a)).length cap))), (9, .own 9 4 (([]).map FC.cs)), (10, .own 10 4 (([]).map FC.cs)), (30, .a (strsA (wentF a b))), (31, .a (.v (.int .i64 (((wentF a b).map (fun s : ByteArray => [AV.v (.string s)])).length)))), (32, .a (.v (.int .i64 (((0) : Int)))))], [⟨g2, true, .box (strsC ((wentF b a)) ++ (ext))⟩, ⟨bx, true, .map (encM Value.string bts mx)⟩, ⟨by_, true, .map (encM Value.string bts my)⟩]⟩ ⟨rfl, (Slots.cons rfl (by first | exact .refl _ | exact .nilOwn _ _ | exact .nilSl _ | exact .ownSl _ _ _  | exact SV.le.of_eq (by simp)) (Slots.cons rfl (by first | exact .refl _ | exact .nilOwn _ _ | exact .nilSl _ | exact .ownSl _ _ _  | exact SV.le.of_eq (by simp)) (Slots.cons rfl (by first | exact .refl _ | exact .nilOwn _ _ | exact .nilSl _ | exact .ownSl _ _ _  | exact SV.le.of_eq (by simp)) (Slots.cons rfl (by first | exact .refl _ | exact .nilOwn _ _ | exact .nilSl _ | exact .ownSl _ _ _  | exact SV.le.of_eq (by simp)) (Slots.cons rfl (by first | exact .refl _ | exact .nilOwn _ _ | exact .nilSl _ | exact .ownSl _ _ _  | exact SV.le.of_eq (by simp)) (Slots.cons rfl (by first | exact .refl _ | exact .nilOwn _ _ | exact .nilSl _ | exact .ownSl _ _ _  | exact SV.le.of_eq (by simp)) (Slots.cons rfl (by first | exact .refl _ | exact .nilOwn _ _ | exact .nilSl _ | exact .ownSl _ _ _  | exact SV.le.of_eq (by simp)) (Slots.cons rfl (by first | exact .refl _ | exact .nilOwn _ _ | exact .nilSl _ | exact .ownSl _ _ _  | exact SV.le.of_eq (by simp)) Slots.nil)))))))), (by first | exact List.Sublist.refl _ | exact .cons_cons _ (.cons _ (.refl _)) | exact List.nil_sublist _ | exact .cons _ (.refl _) | exact .cons _ (.cons _ (.refl _)) | exact .cons _ (.cons _ (.cons _ (.refl _))) | exact .cons _ (.cons _ (.cons _ (.cons _ (.refl _)))) | exact .cons_cons _ (List.nil_sublist _))⟩ ⟨0, (wentF b a), [], [], ext, rfl, rfl, Nat.zero_le _, rfl, hcap, (by simp), (by simp), (by have := went_len b a; omega)⟩ ?_
    rintro nn0 _ ⟨k, came, out, gone, ext, rfl, rfl, hk, hst, hce, hol, hgl, hcl⟩
    refine awp_seq ?_
    refine awp_region ?_
    refine r_cmp rfl rfl rfl rfl ?_
    refine awl_nil ?_
    refine x_then ?_
    refine awp_seq ?_
    refine awp_cond rfl (fun hc0 => ?_) (fun hc0 => ?_)
    ·
      have hltx : k < (wentF a b).length := by have := of_decide_eq_true hc0; simpa using this
      obtain ⟨x, hx⟩ := get_lt hltx
      refine awp_skip ?_
      refine x_then ?_
      refine awp_seq ?_
      refine awp_block ?_
      refine awp_seq ?_
      refine awp_region ?_
      refine r_index rfl rfl rfl TF.sl74 TF.sz9 (by omega) (get_map hx) rfl ?_
      first | (refine r_load1 rfl TF.agg9 rfl ?_) | (refine r_load1b 0 rfl rfl rfl TF.agg9 rfl ?_) | (refine r_load1b 1 rfl rfl rfl TF.agg9 rfl ?_) | (refine r_load1b 2 rfl rfl rfl TF.agg9 rfl ?_)
      refine r_alloc TF.zero9 rfl (fun b12 => ?_)
      first | (refine r_store 0 rfl rfl rfl TF.sz9 rfl rfl rfl ?_) | (refine r_store 1 rfl rfl rfl TF.sz9 rfl rfl rfl ?_) | (refine r_store 2 rfl rfl rfl TF.sz9 rfl rfl rfl ?_) | (refine r_store 3 rfl rfl rfl TF.sz9 rfl rfl rfl ?_)
      refine awl_nil ?_
      refine x_then ?_
      refine awp_seq ?_
      refine awp_region ?_
      refine awl_imp (imp_commit 0 12 rfl rfl rfl rfl) ?_
      refine r_move rfl rfl ?_
      refine r_makeFunc rfl (.cons (.ev rfl rfl) (.cons (.ev rfl rfl) (.cons (.ev rfl rfl) .nil))) rfl ?_
      refine r_callO hq rfl rfl (.cons (.ev rfl rfl) (.cons (.ev rfl rfl) .nil)) (idxV_ok (os := [⟨bx, true, .map (encM Value.string bts mx)⟩, ⟨by_, true, .map (encM Value.string bts my)⟩]) (hitF a b x) TF.en35 (fun t => of1_ok htx hty x t) came (by omega)) rfl TF.en34 (List.Sublist.refl _) rfl (fun r nobjs hr => ?_)
      obtain ⟨rfl, rfl⟩ := hr
      refine r_assign rfl rfl ?_
      refine awl_nil ?_
      refine x_then ?_
      refine awp_seq ?_
      refine awp_seq ?_
      refine awp_region ?_
      refine r_move rfl rfl ?_
      refine r_cmp rfl rfl rfl rfl ?_
      refine awl_nil ?_
      refine x_then ?_
      refine awp_cond rfl (fun hc1 => ?_) (fun hc1 => ?_)
      ·
        have hno := optI_none (of_decide_eq_true hc1)
        refine awp_seq ?_
        refine awp_region ?_
        refine r_move rfl rfl ?_
        first | (refine r_load1 rfl TF.agg9 rfl ?_) | (refine r_load1b 0 rfl rfl rfl TF.agg9 rfl ?_) | (refine r_load1b 1 rfl rfl rfl TF.agg9 rfl ?_) | (refine r_load1b 2 rfl rfl rfl TF.agg9 rfl ?_) | (refine r_load1b 3 rfl rfl rfl TF.agg9 rfl ?_)
        refine r_build (parts := [(0, .const ((Go.Value.int Go.IntKind.i64 2))), (1, .tmp 42)]) rfl TF.pl44 TF.zero44 rfl rfl rfl ?_
        refine r_lit 44 (parts := [(0, .tmp 43)]) rfl TF.sl39 TF.sz44 TF.zraw44 rfl rfl rfl rfl rfl rfl rfl ?_
        refine r_append 10 rfl (by first | exact .own _ | exact .nil) rfl (by first | exact .sl _ | exact .own _ _ | exact .nil) TF.sl39 TF.sz44 (by decide) TF.by44 TF.zlen44 (by simp [chunks] <;> omega) (by simp [chunks] <;> omega) rfl ?_
        refine r_assign rfl rfl ?_
        refine awl_nil ?_
        refine x_then ?_
        refine awp_exit ?_
        refine x_thenE ?_
        refine x_blockE ?_
        refine x_then ?_
        refine awp_region ?_
        refine r_ari _ rfl rfl rfl (wrap_id (by first | omega | (simp; omega))) rfl ?_
        refine r_move rfl rfl ?_
        refine awl_nil ?_
        refine x_then ?_
        refine ⟨(wentF a b).length - (k + 1), ⟨111, [(5, .a (.cp [.v (.map (some bx))])), (6, .a (.cp [.v (.map (some by_))])), (8, .a (.v (.slice (some ⟨g2, 0, none⟩) (came).length cap))), (9, .own 9 4 ((out).map FC.cs)), (10, .own 10 4 ((gone ++ [(⟨2, x, E0, []⟩ : FC)]).map FC.cs)), (30, .a (strsA (wentF a b))), (31, .a (.v (.int .i64 (((wentF a b).map (fun s : ByteArray => [AV.v (.string s)])).length)))), (32, .a (.v (.int .i64 (((k + 1) : Int)))))], [⟨g2, true, .box (strsC (came) ++ (ext))⟩, ⟨bx, true, .map (encM Value.string bts mx)⟩, ⟨by_, true, .map (encM Value.string bts my)⟩]⟩, ⟨rfl, (Slots.cons rfl (by first | exact .refl _ | exact .nilOwn _ _ | exact .nilSl _ | exact .ownSl _ _ _  | exact SV.le.ownEq (by first | rfl | (rw [List.map_append]; rfl) | (simp [List.map_append]; done)) | exact SV.le.of_eq (by first | rfl | (rw [List.map_append]; rfl) | (simp [List.map_append]; done))) (Slots.cons rfl (by first | exact .refl _ | exact .nilOwn _ _ | exact .nilSl _ | exact .ownSl _ _ _  | exact SV.le.ownEq (by first | rfl | (rw [List.map_append]; rfl) | (simp [List.map_append]; done)) | exact SV.le.of_eq (by first | rfl | (rw [List.map_append]; rfl) | (simp [List.map_append]; done))) (Slots.cons rfl (by first | exact .refl _ | exact .nilOwn _ _ | exact .nilSl _ | exact .ownSl _ _ _  | exact SV.le.ownEq (by first | rfl | (rw [List.map_append]; rfl) | (simp [List.map_append]; done)) | exact SV.le.of_eq (by first | rfl | (rw [List.map_append]; rfl) | (simp [List.map_append]; done))) (Slots.cons rfl (by first | exact .refl _ | exact .nilOwn _ _ | exact .nilSl _ | exact .ownSl _ _ _  | exact SV.le.ownEq (by first | rfl | (rw [List.map_append]; rfl) | (simp [List.map_append]; done)) | exact SV.le.of_eq (by first | rfl | (rw [List.map_append]; rfl) | (simp [List.map_append]; done))) (Slots.cons rfl (by first | exact .refl _ | exact .nilOwn _ _ | exact .nilSl _ | exact .ownSl _ _ _  | exact SV.le.ownEq (by first | rfl | (rw [List.map_append]; rfl) | (simp [List.map_append]; done)) | exact SV.le.of_eq (by first | rfl | (rw [List.map_append]; rfl) | (simp [List.map_append]; done))) (Slots.cons rfl (by first | exact .refl _ | exact .nilOwn _ _ | exact .nilSl _ | exact .ownSl _ _ _  | exact SV.le.ownEq (by first | rfl | (rw [List.map_append]; rfl) | (simp [List.map_append]; done)) | exact SV.le.of_eq (by first | rfl | (rw [List.map_append]; rfl) | (simp [List.map_append]; done))) (Slots.cons rfl (by first | exact .refl _ | exact .nilOwn _ _ | exact .nilSl _ | exact .ownSl _ _ _  | exact SV.le.ownEq (by first | rfl | (rw [List.map_append]; rfl) | (simp [List.map_append]; done)) | exact SV.le.of_eq (by first | rfl | (rw [List.map_append]; rfl) | (simp [List.map_append]; done))) (Slots.cons rfl (by first | exact .refl _ | exact .nilOwn _ _ | exact .nilSl _ | exact .ownSl _ _ _  | exact SV.le.ownEq (by first | rfl | (rw [List.map_append]; rfl) | (simp [List.map_append]; done)) | exact SV.le.of_eq (by first | rfl | (rw [List.map_append]; rfl) | (simp [List.map_append]; done))) Slots.nil)))))))), (by first | exact List.Sublist.refl _ | exact .cons_cons _ (.cons _ (.refl _)) | exact List.nil_sublist _ | exact .cons _ (.refl _) | exact .cons _ (.cons _ (.refl _)) | exact .cons _ (.cons _ (.cons _ (.refl _))) | exact .cons _ (.cons _ (.cons _ (.cons _ (.refl _)))) | exact .cons_cons _ (List.nil_sublist _))⟩, (by omega), ⟨k + 1, came, out, gone ++ [(⟨2, x, E0, []⟩ : FC)], ext, rfl, rfl, (by omega), (split_none hx hst hno), hce, (by omega), (by simp; omega), hcl⟩⟩
      ·
        obtain ⟨i, hi⟩ := optI_some (o := came.findIdx? (hitF a b x)) (by have := of_decide_eq_false hc1; omega)
        have hoi : optI (came.findIdx? (hitF a b x)) = (i : Int) := by rw [hi]; rfl
        rw [hoi]
        obtain ⟨t0, ht0, _⟩ := fidx_get hi
        have hil := (List.getElem?_eq_some_iff.1 ht0).1
        refine awp_skip ?_
        refine x_then ?_
        refine awp_seq ?_
        refine awp_drawS [46, 47, 48, 49, 50, 51, 52, 53] [_, _, _, _, _, _, _, _] [] [(7, 53)] TF.mixed rfl rfl rfl ⟨⟨⟨⟨⟨⟨⟨⟨trivial
          , ⟨_, rfl, fun sl hd hr ho => by
              refine r_move (hr 9 _ rfl rfl rfl) rfl ?_
              exact awl_nil ⟨rfl, post_put⟩⟩⟩
          , ⟨_, rfl, fun sl hd hr ho => by
              first | (refine r_load1 (hr 12 _ rfl rfl rfl) TF.agg9 rfl ?_) | (refine r_load1b 0 (hr 12 _ rfl rfl rfl) rfl rfl TF.agg9 rfl ?_) | (refine r_load1b 1 (hr 12 _ rfl rfl rfl) rfl rfl TF.agg9 rfl ?_) | (refine r_load1b 2 (hr 12 _ rfl rfl rfl) rfl rfl TF.agg9 rfl ?_) | (refine r_load1b 3 (hr 12 _ rfl rfl rfl) rfl rfl TF.agg9 rfl ?_)
              exact awl_nil ⟨rfl, post_put⟩⟩⟩
          , ⟨_, rfl, fun sl hd hr ho => by
              refine r_move (hr 8 _ rfl rfl rfl) rfl ?_
              exact awl_nil ⟨rfl, post_put⟩⟩⟩
          , ⟨_, rfl, fun sl hd hr ho => by
              refine r_move (hr 13 _ rfl rfl rfl) rfl ?_
              exact awl_nil ⟨rfl, post_put⟩⟩⟩
          , ⟨_, rfl, fun sl hd hr ho => by
              refine r_indexV (hd 2 _ rfl rfl rfl) (hd 3 _ rfl rfl rfl) TF.sl74 TF.sz9 (by omega) (by omega) rfl ?_
              exact awl_nil ⟨rfl, post_put⟩⟩⟩
          , ⟨_, rfl, fun sl hd hr ho => by
              refine r_load1b 0 (hd 4 _ rfl rfl rfl) rfl (str_at ht0) TF.agg9 rfl ?_
              exact awl_nil ⟨rfl, post_put⟩⟩⟩
          , ⟨_, rfl, fun sl hd hr ho => by
              refine r_build (parts := [(0, .const ((Go.Value.int Go.IntKind.i64 4))), (1, .tmp 47), (2, .tmp 51)]) rfl TF.pl44 TF.zero44 (parts_cons rfl (parts_cons (hd 1 _ rfl rfl rfl) (parts_cons (hd 5 _ rfl rfl rfl) parts_nil))) rfl rfl ?_
              exact awl_nil ⟨rfl, post_put⟩⟩⟩
          , ⟨_, rfl, fun sl hd hr ho => by
              refine r_lit 53 (parts := [(0, .tmp 52)]) rfl TF.sl39 TF.sz44 TF.zraw44 rfl rfl (parts_cons (hd 6 _ rfl rfl rfl) parts_nil) rfl rfl rfl rfl ?_
              exact awl_nil ⟨rfl, (post_dem (ho 53 (List.mem_of_elem_eq_true rfl)))⟩⟩⟩
          (by rfl) ?_
        refine r_append 9 rfl (by first | exact .own _ | exact .nil) rfl (by first | exact .sl _ | exact .own _ _ | exact .nil) TF.sl39 TF.sz44 (by decide) TF.by44 TF.zlen44 (by simp [chunks] <;> omega) (by simp [chunks] <;> omega) rfl ?_
        refine r_assign rfl rfl ?_
        refine awl_nil ?_
        refine x_then ?_
        refine awp_region ?_
        refine r_move rfl rfl ?_
        refine r_move rfl rfl ?_
        refine r_move rfl rfl ?_
        refine r_ari _ rfl rfl rfl (wrap_id (by first | omega | (simp; omega))) rfl ?_
        refine r_callW hq [true, false, false] rfl rfl (.cons (.ev rfl rfl) (.cons (.ev rfl rfl) (.cons (.ev rfl rfl) .nil))) (delete_ok came i hil (by omega) hce) rfl TF.en37 rfl rfl (List.nil_sublist _) rfl (fun r nobjs hr => ?_)
        obtain ⟨ext', hce', rfl, rfl⟩ := hr
        refine r_assign rfl rfl ?_
        refine awl_nil ?_
        refine x_block ?_
        refine x_then ?_
        refine awp_region ?_
        refine r_ari _ rfl rfl rfl (wrap_id (by first | omega | (simp; omega))) rfl ?_
        refine r_move rfl rfl ?_
        refine awl_nil ?_
        refine x_then ?_
        refine ⟨(wentF a b).length - (k + 1), ⟨111, [(5, .a (.cp [.v (.map (some bx))])), (6, .a (.cp [.v (.map (some by_))])), (8, .a (.v (.slice (some ⟨g2, 0, none⟩) ((came.eraseIdx i)).length cap))), (9, .own 9 4 ((out ++ [(⟨4, x, t0, []⟩ : FC)]).map FC.cs)), (10, .own 10 4 ((gone).map FC.cs)), (30, .a (strsA (wentF a b))), (31, .a (.v (.int .i64 (((wentF a b).map (fun s : ByteArray => [AV.v (.string s)])).length)))), (32, .a (.v (.int .i64 (((k + 1) : Int)))))], [⟨g2, true, .box (strsC ((came.eraseIdx i)) ++ (ext'))⟩, ⟨bx, true, .map (encM Value.string bts mx)⟩, ⟨by_, true, .map (encM Value.string bts my)⟩]⟩, ⟨rfl, (Slots.cons rfl (by first | exact .refl _ | exact .nilOwn _ _ | exact .nilSl _ | exact .ownSl _ _ _  | exact SV.le.ownEq (by first | rfl | (rw [List.map_append]; rfl) | (simp [List.map_append]; done)) | exact SV.le.of_eq (by first | rfl | (rw [List.map_append]; rfl) | (simp [List.map_append]; done))) (Slots.cons rfl (by first | exact .refl _ | exact .nilOwn _ _ | exact .nilSl _ | exact .ownSl _ _ _  | exact SV.le.ownEq (by first | rfl | (rw [List.map_append]; rfl) | (simp [List.map_append]; done)) | exact SV.le.of_eq (by first | rfl | (rw [List.map_append]; rfl) | (simp [List.map_append]; done))) (Slots.cons rfl (by first | exact .refl _ | exact .nilOwn _ _ | exact .nilSl _ | exact .ownSl _ _ _  | exact SV.le.ownEq (by first | rfl | (rw [List.map_append]; rfl) | (simp [List.map_append]; done)) | exact SV.le.of_eq (by first | rfl | (rw [List.map_append]; rfl) | (simp [List.map_append]; done))) (Slots.cons rfl (by first | exact .refl _ | exact .nilOwn _ _ | exact .nilSl _ | exact .ownSl _ _ _  | exact SV.le.ownEq (by first | rfl | (rw [List.map_append]; rfl) | (simp [List.map_append]; done)) | exact SV.le.of_eq (by first | rfl | (rw [List.map_append]; rfl) | (simp [List.map_append]; done))) (Slots.cons rfl (by first | exact .refl _ | exact .nilOwn _ _ | exact .nilSl _ | exact .ownSl _ _ _  | exact SV.le.ownEq (by first | rfl | (rw [List.map_append]; rfl) | (simp [List.map_append]; done)) | exact SV.le.of_eq (by first | rfl | (rw [List.map_append]; rfl) | (simp [List.map_append]; done))) (Slots.cons rfl (by first | exact .refl _ | exact .nilOwn _ _ | exact .nilSl _ | exact .ownSl _ _ _  | exact SV.le.ownEq (by first | rfl | (rw [List.map_append]; rfl) | (simp [List.map_append]; done)) | exact SV.le.of_eq (by first | rfl | (rw [List.map_append]; rfl) | (simp [List.map_append]; done))) (Slots.cons rfl (by first | exact .refl _ | exact .nilOwn _ _ | exact .nilSl _ | exact .ownSl _ _ _  | exact SV.le.ownEq (by first | rfl | (rw [List.map_append]; rfl) | (simp [List.map_append]; done)) | exact SV.le.of_eq (by first | rfl | (rw [List.map_append]; rfl) | (simp [List.map_append]; done))) (Slots.cons rfl (by first | exact .refl _ | exact .nilOwn _ _ | exact .nilSl _ | exact .ownSl _ _ _  | exact SV.le.ownEq (by first | rfl | (rw [List.map_append]; rfl) | (simp [List.map_append]; done)) | exact SV.le.of_eq (by first | rfl | (rw [List.map_append]; rfl) | (simp [List.map_append]; done))) Slots.nil)))))))), (by first | exact List.Sublist.refl _ | exact .cons_cons _ (.cons _ (.refl _)) | exact List.nil_sublist _ | exact .cons _ (.refl _) | exact .cons _ (.cons _ (.refl _)) | exact .cons _ (.cons _ (.cons _ (.refl _))) | exact .cons _ (.cons _ (.cons _ (.cons _ (.refl _)))) | exact .cons_cons _ (List.nil_sublist _))⟩, (by omega), ⟨k + 1, (came.eraseIdx i), out ++ [(⟨4, x, t0, []⟩ : FC)], gone, ext', rfl, rfl, (by omega), (split_some hx hst hi ht0), hce', (by simp; omega), (by omega), (by rw [List.length_eraseIdx]; split <;> omega)⟩⟩
    ·
      have hge : (wentF a b).length ≤ k := by have := of_decide_eq_false hc0; simp at this; omega
      obtain rfl : k = (wentF a b).length := by omega
      refine awp_exit ?_
      refine x_thenE ?_
      refine x_thenE ?_
      refine x_blockE ?_
      refine x_then ?_
      refine awp_seq ?_
      refine awp_region ?_
      refine r_move rfl rfl ?_
      refine r_move rfl rfl ?_
      refine r_append 9 rfl (by first | exact .own _ | exact .nil) rfl (by first | exact .sl _ | exact .own _ _ | exact .nil) TF.sl39 TF.sz44 (by decide) TF.by44 TF.zlen44 (by simp [chunks] <;> omega) (by simp [chunks] <;> omega) rfl ?_
      refine r_assign rfl rfl ?_
      refine awl_nil ?_
      refine x_then ?_
      refine awp_seq ?_
      refine awp_seq ?_
      refine awp_region ?_
      first | (refine r_load1 rfl TF.agg72 rfl ?_) | (refine r_load1b 0 rfl rfl rfl TF.agg72 rfl ?_) | (refine r_load1b 1 rfl rfl rfl TF.agg72 rfl ?_) | (refine r_load1b 2 rfl rfl rfl TF.agg72 rfl ?_)
      refine r_callO hq rfl rfl (.cons (.ev rfl rfl) .nil) (orderN_ok htx hnsa (by omega)) rfl TF.en38 (.cons _ (.cons_cons _ (List.nil_sublist _))) rfl (fun r nobjs hr => ?_)
      obtain ⟨rfl, rfl⟩ := hr
      first | (refine r_lenS rfl rfl TF.sl74 rfl ?_) | (refine r_lenNil rfl TF.sl74 rfl ?_) | (refine r_lenV rfl TF.sl74 rfl ?_)
      refine r_move rfl rfl ?_
      refine awl_nil ?_
      refine x_then ?_
      refine awp_block ?_
      refine awp_loop (fun nn0 S => ∃ k : Nat, S = ⟨111, [(5, .a (.cp [.v (.map (some bx))])), (6, .a (.cp [.v (.map (some by_))])), (8, .a (.v (.slice (some ⟨g2, 0, none⟩) came.length cap))), (9, .own 9 4 (((out ++ gone) ++ ((namesF a).take k).filterMap (chgF a b)).map FC.cs)), (65, .a (strsA (namesF a))), (66, .a (.v (.int .i64 (((namesF a).map (fun s : ByteArray => [AV.v (.string s)])).length)))), (67, .a (.v (.int .i64 ((k : Int)))))], [⟨g2, true, .box (strsC came ++ ext)⟩, ⟨bx, true, .map (encM Value.string bts mx)⟩, ⟨by_, true, .map (encM Value.string bts my)⟩]⟩ ∧ nn0 = (namesF a).length - k ∧ (k ≤ (namesF a).length)) ((namesF a).length - (0)) ⟨111, [(5, .a (.cp [.v (.map (some bx))])), (6, .a (.cp [.v (.map (some by_))])), (8, .a (.v (.slice (some ⟨g2, 0, none⟩) came.length cap))), (9, .own 9 4 (((out ++ gone) ++ ((namesF a).take (0)).filterMap (chgF a b)).map FC.cs)), (65, .a (strsA (namesF a))), (66, .a (.v (.int .i64 (((namesF a).map (fun s : ByteArray => [AV.v (.string s)])).length)))), (67, .a (.v (.int .i64 (((0) : Int)))))], [⟨g2, true, .box (strsC came ++ ext)⟩, ⟨bx, true, .map (encM Value.string bts mx)⟩, ⟨by_, true, .map (encM Value.string bts my)⟩]⟩ ⟨rfl, (Slots.cons rfl (by first | exact .refl _ | exact .nilOwn _ _ | exact .nilSl _ | exact .ownSl _ _ _  | exact SV.le.ownEq (by simp [chunks]) | exact SV.le.of_eq (by simp [chunks])) (Slots.cons rfl (by first | exact .refl _ | exact .nilOwn _ _ | exact .nilSl _ | exact .ownSl _ _ _  | exact SV.le.ownEq (by simp [chunks]) | exact SV.le.of_eq (by simp [chunks])) (Slots.cons rfl (by first | exact .refl _ | exact .nilOwn _ _ | exact .nilSl _ | exact .ownSl _ _ _  | exact SV.le.ownEq (by simp [chunks]) | exact SV.le.of_eq (by simp [chunks])) (Slots.cons rfl (by first | exact .refl _ | exact .nilOwn _ _ | exact .nilSl _ | exact .ownSl _ _ _  | exact SV.le.ownEq (by simp [chunks]) | exact SV.le.of_eq (by simp [chunks])) (Slots.cons rfl (by first | exact .refl _ | exact .nilOwn _ _ | exact .nilSl _ | exact .ownSl _ _ _  | exact SV.le.ownEq (by simp [chunks]) | exact SV.le.of_eq (by simp [chunks])) (Slots.cons rfl (by first | exact .refl _ | exact .nilOwn _ _ | exact .nilSl _ | exact .ownSl _ _ _  | exact SV.le.ownEq (by simp [chunks]) | exact SV.le.of_eq (by simp [chunks])) (Slots.cons rfl (by first | exact .refl _ | exact .nilOwn _ _ | exact .nilSl _ | exact .ownSl _ _ _  | exact SV.le.ownEq (by simp [chunks]) | exact SV.le.of_eq (by simp [chunks])) Slots.nil))))))), (by first | exact List.Sublist.refl _ | exact .cons_cons _ (.cons _ (.refl _)) | exact List.nil_sublist _ | exact .cons _ (.refl _) | exact .cons _ (.cons _ (.refl _)) | exact .cons _ (.cons _ (.cons _ (.refl _))) | exact .cons _ (.cons _ (.cons _ (.cons _ (.refl _)))) | exact .cons_cons _ (List.nil_sublist _))⟩ ⟨0, rfl, rfl, Nat.zero_le _⟩ ?_
      rintro nn0 _ ⟨k, rfl, rfl, hk1⟩
      refine awp_seq ?_
      refine awp_region ?_
      refine r_cmp rfl rfl rfl rfl ?_
      refine awl_nil ?_
      refine x_then ?_
      refine awp_seq ?_
      refine awp_cond rfl (fun hc2 => ?_) (fun hc2 => ?_)
      ·
        have hltx : k < (namesF a).length := by have := of_decide_eq_true hc2; simpa using this
        obtain ⟨x, hx⟩ := get_lt hltx
        have hf1 : (((namesF a).take k).filterMap (chgF a b)).length ≤ k := Nat.le_trans (List.length_filterMap_le _ _) (by simp; omega)
        refine awp_skip ?_
        refine x_then ?_
        refine awp_seq ?_
        refine awp_block ?_
        refine awp_seq ?_
        refine awp_region ?_
        refine r_index rfl rfl rfl TF.sl74 TF.sz9 (by omega) (get_map hx) rfl ?_
        first | (refine r_load1 rfl TF.agg9 rfl ?_) | (refine r_load1b 0 rfl rfl rfl TF.agg9 rfl ?_) | (refine r_load1b 1 rfl rfl rfl TF.agg9 rfl ?_) | (refine r_load1b 2 rfl rfl rfl TF.agg9 rfl ?_)
        refine r_assign rfl rfl ?_
        refine awl_nil ?_
        refine x_then ?_
        refine awp_seq ?_
        refine awp_region ?_
        first | (refine r_load1 rfl TF.agg72 rfl ?_) | (refine r_load1b 0 rfl rfl rfl TF.agg72 rfl ?_) | (refine r_load1b 1 rfl rfl rfl TF.agg72 rfl ?_) | (refine r_load1b 2 rfl rfl rfl TF.agg72 rfl ?_)
        refine r_move rfl rfl ?_
        first | (refine r_lookupOk 0 (keyEnc_string TF.un9) (ev := bts) [] rfl rfl rfl TF.map72 TF.zavS rfl ?_) | (refine r_lookupOk 1 (keyEnc_string TF.un9) (ev := bts) [] rfl rfl rfl TF.map72 TF.zavS rfl ?_) | (refine r_lookupOk 2 (keyEnc_string TF.un9) (ev := bts) [] rfl rfl rfl TF.map72 TF.zavS rfl ?_)
        refine r_move rfl rfl ?_
        refine r_extract rfl rfl rfl ?_
        refine r_extract rfl rfl rfl ?_
        refine r_assign rfl rfl ?_
        refine r_assign rfl rfl ?_
        refine awl_nil ?_
        refine x_then ?_
        refine awp_seq ?_
        refine awp_region ?_
        refine r_move rfl rfl ?_
        refine r_move rfl rfl ?_
        refine g_cases (t' := 78) rfl (fun hg78 => ?_) (fun hg78 => ?_)
        ·
          obtain ⟨d, hdq⟩ : ∃ d, mget my x = some d := Option.isSome_iff_exists.1 hg78
          have hq2 : lookF b x = some d := by rw [← hty.get, hdq]
          refine g_run rfl rfl hg78 ?_
          first | (refine r_load1 rfl TF.agg72 rfl ?_) | (refine r_load1b 0 rfl rfl rfl TF.agg72 rfl ?_) | (refine r_load1b 1 rfl rfl rfl TF.agg72 rfl ?_) | (refine r_load1b 2 rfl rfl rfl TF.agg72 rfl ?_)
          refine g_run rfl rfl hg78 ?_
          refine r_move rfl rfl ?_
          refine g_run rfl rfl hg78 ?_
          first | (refine r_lookup 0 (keyEnc_string TF.un9) (ev := bts) [] rfl rfl rfl TF.map72 TF.zavS rfl ?_) | (refine r_lookup 1 (keyEnc_string TF.un9) (ev := bts) [] rfl rfl rfl TF.map72 TF.zavS rfl ?_) | (refine r_lookup 2 (keyEnc_string TF.un9) (ev := bts) [] rfl rfl rfl TF.map72 TF.zavS rfl ?_)
          refine g_run rfl rfl hg78 ?_
          refine r_move rfl rfl ?_
          refine g_run rfl rfl hg78 ?_
          refine r_call0 hq rfl rfl (.cons (.ev rfl rfl) (.cons (.ev rfl rfl) .nil)) (equal_ok _ _) rfl TF.en36 rfl (fun r hr => ?_)
          obtain rfl := hr
          refine g_run rfl rfl hg78 ?_
          refine r_not rfl rfl ?_
          refine r_pickT rfl hg78 rfl rfl ?_
          refine awl_nil ?_
          refine x_then ?_
          refine awp_cond rfl (fun hc3 => ?_) (fun hc3 => ?_)
          ·
            rw [hdq] at hc3 ⊢
            have hne : decide ((lookF a x).getD [] = d) = false := by rw [← htx.get]; simpa using hc3
            have ht : chgF a b x = some ⟨3, x, E0, d⟩ := by rw [chgF, hq2]; simp only [hne, cond_false]
            have hdl : d.length ≤ 1000000 := by have := look_len hdb x; rw [hq2] at this; simpa using this
            refine awp_region ?_
            refine r_move rfl rfl ?_
            refine r_move rfl rfl ?_
            refine r_move rfl rfl ?_
            refine r_call0 hq rfl rfl (.cons (.ev rfl rfl) .nil) (clone_ok d hdl) rfl TF.en39 rfl (fun r hr => ?_)
            obtain rfl := hr
            refine r_build (parts := [(0, .const ((Go.Value.int Go.IntKind.i64 3))), (1, .tmp 87), (3, .tmp 89)]) rfl TF.pl44 TF.zero44 rfl rfl rfl ?_
            refine r_lit 91 (parts := [(0, .tmp 90)]) rfl TF.sl39 TF.sz44 TF.zraw44 rfl rfl rfl rfl rfl rfl rfl ?_
            refine r_append 9 rfl (by first | exact .own _ | exact .nil) rfl (by first | exact .sl _ | exact .own _ _ | exact .nil) TF.sl39 TF.sz44 (by decide) TF.by44 TF.zlen44 (by simp [chunks] <;> omega) (by simp [chunks] <;> omega) rfl ?_
            refine r_assign rfl rfl ?_
            refine awl_nil ?_
            refine x_block ?_
            refine x_then ?_
            refine awp_region ?_
            refine r_ari _ rfl rfl rfl (wrap_id (by first | omega | (simp; omega))) rfl ?_
            refine r_move rfl rfl ?_
            refine awl_nil ?_
            refine x_then ?_
            have et := fmS_step (f := chgF a b) hx
            rw [ht] at et
            simp only [Option.toList_some, Option.toList_none, List.append_nil] at et
            refine ⟨(namesF a).length - (k + 1), ⟨111, [(5, .a (.cp [.v (.map (some bx))])), (6, .a (.cp [.v (.map (some by_))])), (8, .a (.v (.slice (some ⟨g2, 0, none⟩) came.length cap))), (9, .own 9 4 (((out ++ gone) ++ ((namesF a).take (k + 1)).filterMap (chgF a b)).map FC.cs)), (65, .a (strsA (namesF a))), (66, .a (.v (.int .i64 (((namesF a).map (fun s : ByteArray => [AV.v (.string s)])).length)))), (67, .a (.v (.int .i64 (((k + 1) : Int)))))], [⟨g2, true, .box (strsC came ++ ext)⟩, ⟨bx, true, .map (encM Value.string bts mx)⟩, ⟨by_, true, .map (encM Value.string bts my)⟩]⟩, ⟨rfl, (Slots.cons rfl (by first | exact .refl _ | exact .nilOwn _ _ | exact .nilSl _ | exact .ownSl _ _ _  | exact SV.le.ownEq (by first | rfl | (rw [et, ← List.append_assoc (out ++ gone), List.map_append (l₁ := ((out ++ gone) ++ ((namesF a).take k).filterMap (chgF a b)))]; rfl) | (rw [et]; first | done | rfl)) | exact SV.le.of_eq (by first | rfl | (rw [et, ← List.append_assoc (out ++ gone), List.map_append (l₁ := ((out ++ gone) ++ ((namesF a).take k).filterMap (chgF a b)))]; rfl) | (rw [et]; first | done | rfl))) (Slots.cons rfl (by first | exact .refl _ | exact .nilOwn _ _ | exact .nilSl _ | exact .ownSl _ _ _  | exact SV.le.ownEq (by first | rfl | (rw [et, ← List.append_assoc (out ++ gone), List.map_append (l₁ := ((out ++ gone) ++ ((namesF a).take k).filterMap (chgF a b)))]; rfl) | (rw [et]; first | done | rfl)) | exact SV.le.of_eq (by first | rfl | (rw [et, ← List.append_assoc (out ++ gone), List.map_append (l₁ := ((out ++ gone) ++ ((namesF a).take k).filterMap (chgF a b)))]; rfl) | (rw [et]; first | done | rfl))) (Slots.cons rfl (by first | exact .refl _ | exact .nilOwn _ _ | exact .nilSl _ | exact .ownSl _ _ _  | exact SV.le.ownEq (by first | rfl | (rw [et, ← List.append_assoc (out ++ gone), List.map_append (l₁ := ((out ++ gone) ++ ((namesF a).take k).filterMap (chgF a b)))]; rfl) | (rw [et]; first | done | rfl)) | exact SV.le.of_eq (by first | rfl | (rw [et, ← List.append_assoc (out ++ gone), List.map_append (l₁ := ((out ++ gone) ++ ((namesF a).take k).filterMap (chgF a b)))]; rfl) | (rw [et]; first | done | rfl))) (Slots.cons rfl (by first | exact .refl _ | exact .nilOwn _ _ | exact .nilSl _ | exact .ownSl _ _ _  | exact SV.le.ownEq (by first | rfl | (rw [et, ← List.append_assoc (out ++ gone), List.map_append (l₁ := ((out ++ gone) ++ ((namesF a).take k).filterMap (chgF a b)))]; rfl) | (rw [et]; first | done | rfl)) | exact SV.le.of_eq (by first | rfl | (rw [et, ← List.append_assoc (out ++ gone), List.map_append (l₁ := ((out ++ gone) ++ ((namesF a).take k).filterMap (chgF a b)))]; rfl) | (rw [et]; first | done | rfl))) (Slots.cons rfl (by first | exact .refl _ | exact .nilOwn _ _ | exact .nilSl _ | exact .ownSl _ _ _  | exact SV.le.ownEq (by first | rfl | (rw [et, ← List.append_assoc (out ++ gone), List.map_append (l₁ := ((out ++ gone) ++ ((namesF a).take k).filterMap (chgF a b)))]; rfl) | (rw [et]; first | done | rfl)) | exact SV.le.of_eq (by first | rfl | (rw [et, ← List.append_assoc (out ++ gone), List.map_append (l₁ := ((out ++ gone) ++ ((namesF a).take k).filterMap (chgF a b)))]; rfl) | (rw [et]; first | done | rfl))) (Slots.cons rfl (by first | exact .refl _ | exact .nilOwn _ _ | exact .nilSl _ | exact .ownSl _ _ _  | exact SV.le.ownEq (by first | rfl | (rw [et, ← List.append_assoc (out ++ gone), List.map_append (l₁ := ((out ++ gone) ++ ((namesF a).take k).filterMap (chgF a b)))]; rfl) | (rw [et]; first | done | rfl)) | exact SV.le.of_eq (by first | rfl | (rw [et, ← List.append_assoc (out ++ gone), List.map_append (l₁ := ((out ++ gone) ++ ((namesF a).take k).filterMap (chgF a b)))]; rfl) | (rw [et]; first | done | rfl))) (Slots.cons rfl (by first | exact .refl _ | exact .nilOwn _ _ | exact .nilSl _ | exact .ownSl _ _ _  | exact SV.le.ownEq (by first | rfl | (rw [et, ← List.append_assoc (out ++ gone), List.map_append (l₁ := ((out ++ gone) ++ ((namesF a).take k).filterMap (chgF a b)))]; rfl) | (rw [et]; first | done | rfl)) | exact SV.le.of_eq (by first | rfl | (rw [et, ← List.append_assoc (out ++ gone), List.map_append (l₁ := ((out ++ gone) ++ ((namesF a).take k).filterMap (chgF a b)))]; rfl) | (rw [et]; first | done | rfl))) Slots.nil))))))), (by first | exact List.Sublist.refl _ | exact .cons_cons _ (.cons _ (.refl _)) | exact List.nil_sublist _ | exact .cons _ (.refl _) | exact .cons _ (.cons _ (.refl _)) | exact .cons _ (.cons _ (.cons _ (.refl _))) | exact .cons _ (.cons _ (.cons _ (.cons _ (.refl _)))) | exact .cons_cons _ (List.nil_sublist _))⟩, (by omega), ⟨k + 1, rfl, rfl, (by omega)⟩⟩
          ·
            rw [hdq] at hc3
            have hne : decide ((lookF a x).getD [] = d) = true := by rw [← htx.get]; simpa using hc3
            have ht : chgF a b x = none := by rw [chgF, hq2]; simp only [hne, cond_true]
            refine awp_skip ?_
            refine x_block ?_
            refine x_then ?_
            refine awp_region ?_
            refine r_ari _ rfl rfl rfl (wrap_id (by first | omega | (simp; omega))) rfl ?_
            refine r_move rfl rfl ?_
            refine awl_nil ?_
            refine x_then ?_
            have et := fmS_step (f := chgF a b) hx
            rw [ht] at et
            simp only [Option.toList_some, Option.toList_none, List.append_nil] at et
            refine ⟨(namesF a).length - (k + 1), ⟨111, [(5, .a (.cp [.v (.map (some bx))])), (6, .a (.cp [.v (.map (some by_))])), (8, .a (.v (.slice (some ⟨g2, 0, none⟩) came.length cap))), (9, .own 9 4 (((out ++ gone) ++ ((namesF a).take (k + 1)).filterMap (chgF a b)).map FC.cs)), (65, .a (strsA (namesF a))), (66, .a (.v (.int .i64 (((namesF a).map (fun s : ByteArray => [AV.v (.string s)])).length)))), (67, .a (.v (.int .i64 (((k + 1) : Int)))))], [⟨g2, true, .box (strsC came ++ ext)⟩, ⟨bx, true, .map (encM Value.string bts mx)⟩, ⟨by_, true, .map (encM Value.string bts my)⟩]⟩, ⟨rfl, (Slots.cons rfl (by first | exact .refl _ | exact .nilOwn _ _ | exact .nilSl _ | exact .ownSl _ _ _  | exact SV.le.ownEq (by first | rfl | (rw [et, ← List.append_assoc (out ++ gone), List.map_append (l₁ := ((out ++ gone) ++ ((namesF a).take k).filterMap (chgF a b)))]; rfl) | (rw [et]; first | done | rfl)) | exact SV.le.of_eq (by first | rfl | (rw [et, ← List.append_assoc (out ++ gone), List.map_append (l₁ := ((out ++ gone) ++ ((namesF a).take k).filterMap (chgF a b)))]; rfl) | (rw [et]; first | done | rfl))) (Slots.cons rfl (by first | exact .refl _ | exact .nilOwn _ _ | exact .nilSl _ | exact .ownSl _ _ _  | exact SV.le.ownEq (by first | rfl | (rw [et, ← List.append_assoc (out ++ gone), List.map_append (l₁ := ((out ++ gone) ++ ((namesF a).take k).filterMap (chgF a b)))]; rfl) | (rw [et]; first | done | rfl)) | exact SV.le.of_eq (by first | rfl | (rw [et, ← List.append_assoc (out ++ gone), List.map_append (l₁ := ((out ++ gone) ++ ((namesF a).take k).filterMap (chgF a b)))]; rfl) | (rw [et]; first | done | rfl))) (Slots.cons rfl (by first | exact .refl _ | exact .nilOwn _ _ | exact .nilSl _ | exact .ownSl _ _ _  | exact SV.le.ownEq (by first | rfl | (rw [et, ← List.append_assoc (out ++ gone), List.map_append (l₁ := ((out ++ gone) ++ ((namesF a).take k).filterMap (chgF a b)))]; rfl) | (rw [et]; first | done | rfl)) | exact SV.le.of_eq (by first | rfl | (rw [et, ← List.append_assoc (out ++ gone), List.map_append (l₁ := ((out ++ gone) ++ ((namesF a).take k).filterMap (chgF a b)))]; rfl) | (rw [et]; first | done | rfl))) (Slots.cons rfl (by first | exact .refl _ | exact .nilOwn _ _ | exact .nilSl _ | exact .ownSl _ _ _  | exact SV.le.ownEq (by first | rfl | (rw [et, ← List.append_assoc (out ++ gone), List.map_append (l₁ := ((out ++ gone) ++ ((namesF a).take k).filterMap (chgF a b)))]; rfl) | (rw [et]; first | done | rfl)) | exact SV.le.of_eq (by first | rfl | (rw [et, ← List.append_assoc (out ++ gone), List.map_append (l₁ := ((out ++ gone) ++ ((namesF a).take k).filterMap (chgF a b)))]; rfl) | (rw [et]; first | done | rfl))) (Slots.cons rfl (by first | exact .refl _ | exact .nilOwn _ _ | exact .nilSl _ | exact .ownSl _ _ _  | exact SV.le.ownEq (by first | rfl | (rw [et, ← List.append_assoc (out ++ gone), List.map_append (l₁ := ((out ++ gone) ++ ((namesF a).take k).filterMap (chgF a b)))]; rfl) | (rw [et]; first | done | rfl)) | exact SV.le.of_eq (by first | rfl | (rw [et, ← List.append_assoc (out ++ gone), List.map_append (l₁ := ((out ++ gone) ++ ((namesF a).take k).filterMap (chgF a b)))]; rfl) | (rw [et]; first | done | rfl))) (Slots.cons rfl (by first | exact .refl _ | exact .nilOwn _ _ | exact .nilSl _ | exact .ownSl _ _ _  | exact SV.le.ownEq (by first | rfl | (rw [et, ← List.append_assoc (out ++ gone), List.map_append (l₁ := ((out ++ gone) ++ ((namesF a).take k).filterMap (chgF a b)))]; rfl) | (rw [et]; first | done | rfl)) | exact SV.le.of_eq (by first | rfl | (rw [et, ← List.append_assoc (out ++ gone), List.map_append (l₁ := ((out ++ gone) ++ ((namesF a).take k).filterMap (chgF a b)))]; rfl) | (rw [et]; first | done | rfl))) (Slots.cons rfl (by first | exact .refl _ | exact .nilOwn _ _ | exact .nilSl _ | exact .ownSl _ _ _  | exact SV.le.ownEq (by first | rfl | (rw [et, ← List.append_assoc (out ++ gone), List.map_append (l₁ := ((out ++ gone) ++ ((namesF a).take k).filterMap (chgF a b)))]; rfl) | (rw [et]; first | done | rfl)) | exact SV.le.of_eq (by first | rfl | (rw [et, ← List.append_assoc (out ++ gone), List.map_append (l₁ := ((out ++ gone) ++ ((namesF a).take k).filterMap (chgF a b)))]; rfl) | (rw [et]; first | done | rfl))) Slots.nil))))))), (by first | exact List.Sublist.refl _ | exact .cons_cons _ (.cons _ (.refl _)) | exact List.nil_sublist _ | exact .cons _ (.refl _) | exact .cons _ (.cons _ (.refl _)) | exact .cons _ (.cons _ (.cons _ (.refl _))) | exact .cons _ (.cons _ (.cons _ (.cons _ (.refl _)))) | exact .cons_cons _ (List.nil_sublist _))⟩, (by omega), ⟨k + 1, rfl, rfl, (by omega)⟩⟩
        ·
          have hq2 : lookF b x = none := by
            rw [← hty.get]
            cases h : mget my x with
            | none => rfl
            | some d => rw [h] at hg78; cases hg78
          have ht : chgF a b x = none := by rw [chgF, hq2]
          refine g_skip rfl rfl hg78 rfl ?_
          refine g_skip rfl rfl hg78 rfl ?_
          refine g_skip rfl rfl hg78 rfl ?_
          refine g_skip rfl rfl hg78 rfl ?_
          refine g_skip rfl rfl hg78 rfl ?_
          refine g_skip rfl rfl hg78 rfl ?_
          refine r_pickF rfl hg78 rfl rfl ?_
          refine awl_nil ?_
          refine x_then ?_
          refine awp_condF rfl ?_
          refine awp_skip ?_
          refine x_block ?_
          refine x_then ?_
          refine awp_region ?_
          refine r_ari _ rfl rfl rfl (wrap_id (by first | omega | (simp; omega))) rfl ?_
          refine r_move rfl rfl ?_
          refine awl_nil ?_
          refine x_then ?_
          have et := fmS_step (f := chgF a b) hx
          rw [ht] at et
          simp only [Option.toList_some, Option.toList_none, List.append_nil] at et
          refine ⟨(namesF a).length - (k + 1), ⟨111, [(5, .a (.cp [.v (.map (some bx))])), (6, .a (.cp [.v (.map (some by_))])), (8, .a (.v (.slice (some ⟨g2, 0, none⟩) came.length cap))), (9, .own 9 4 (((out ++ gone) ++ ((namesF a).take (k + 1)).filterMap (chgF a b)).map FC.cs)), (65, .a (strsA (namesF a))), (66, .a (.v (.int .i64 (((namesF a).map (fun s : ByteArray => [AV.v (.string s)])).length)))), (67, .a (.v (.int .i64 (((k + 1) : Int)))))], [⟨g2, true, .box (strsC came ++ ext)⟩, ⟨bx, true, .map (encM Value.string bts mx)⟩, ⟨by_, true, .map (encM Value.string bts my)⟩]⟩, ⟨rfl, (Slots.cons rfl (by first | exact .refl _ | exact .nilOwn _ _ | exact .nilSl _ | exact .ownSl _ _ _  | exact SV.le.ownEq (by first | rfl | (rw [et, ← List.append_assoc (out ++ gone), List.map_append (l₁ := ((out ++ gone) ++ ((namesF a).take k).filterMap (chgF a b)))]; rfl) | (rw [et]; first | done | rfl)) | exact SV.le.of_eq (by first | rfl | (rw [et, ← List.append_assoc (out ++ gone), List.map_append (l₁ := ((out ++ gone) ++ ((namesF a).take k).filterMap (chgF a b)))]; rfl) | (rw [et]; first | done | rfl))) (Slots.cons rfl (by first | exact .refl _ | exact .nilOwn _ _ | exact .nilSl _ | exact .ownSl _ _ _  | exact SV.le.ownEq (by first | rfl | (rw [et, ← List.append_assoc (out ++ gone), List.map_append (l₁ := ((out ++ gone) ++ ((namesF a).take k).filterMap (chgF a b)))]; rfl) | (rw [et]; first | done | rfl)) | exact SV.le.of_eq (by first | rfl | (rw [et, ← List.append_assoc (out ++ gone), List.map_append (l₁ := ((out ++ gone) ++ ((namesF a).take k).filterMap (chgF a b)))]; rfl) | (rw [et]; first | done | rfl))) (Slots.cons rfl (by first | exact .refl _ | exact .nilOwn _ _ | exact .nilSl _ | exact .ownSl _ _ _  | exact SV.le.ownEq (by first | rfl | (rw [et, ← List.append_assoc (out ++ gone), List.map_append (l₁ := ((out ++ gone) ++ ((namesF a).take k).filterMap (chgF a b)))]; rfl) | (rw [et]; first | done | rfl)) | exact SV.le.of_eq (by first | rfl | (rw [et, ← List.append_assoc (out ++ gone), List.map_append (l₁ := ((out ++ gone) ++ ((namesF a).take k).filterMap (chgF a b)))]; rfl) | (rw [et]; first | done | rfl))) (Slots.cons rfl (by first | exact .refl _ | exact .nilOwn _ _ | exact .nilSl _ | exact .ownSl _ _ _  | exact SV.le.ownEq (by first | rfl | (rw [et, ← List.append_assoc (out ++ gone), List.map_append (l₁ := ((out ++ gone) ++ ((namesF a).take k).filterMap (chgF a b)))]; rfl) | (rw [et]; first | done | rfl)) | exact SV.le.of_eq (by first | rfl | (rw [et, ← List.append_assoc (out ++ gone), List.map_append (l₁ := ((out ++ gone) ++ ((namesF a).take k).filterMap (chgF a b)))]; rfl) | (rw [et]; first | done | rfl))) (Slots.cons rfl (by first | exact .refl _ | exact .nilOwn _ _ | exact .nilSl _ | exact .ownSl _ _ _  | exact SV.le.ownEq (by first | rfl | (rw [et, ← List.append_assoc (out ++ gone), List.map_append (l₁ := ((out ++ gone) ++ ((namesF a).take k).filterMap (chgF a b)))]; rfl) | (rw [et]; first | done | rfl)) | exact SV.le.of_eq (by first | rfl | (rw [et, ← List.append_assoc (out ++ gone), List.map_append (l₁ := ((out ++ gone) ++ ((namesF a).take k).filterMap (chgF a b)))]; rfl) | (rw [et]; first | done | rfl))) (Slots.cons rfl (by first | exact .refl _ | exact .nilOwn _ _ | exact .nilSl _ | exact .ownSl _ _ _  | exact SV.le.ownEq (by first | rfl | (rw [et, ← List.append_assoc (out ++ gone), List.map_append (l₁ := ((out ++ gone) ++ ((namesF a).take k).filterMap (chgF a b)))]; rfl) | (rw [et]; first | done | rfl)) | exact SV.le.of_eq (by first | rfl | (rw [et, ← List.append_assoc (out ++ gone), List.map_append (l₁ := ((out ++ gone) ++ ((namesF a).take k).filterMap (chgF a b)))]; rfl) | (rw [et]; first | done | rfl))) (Slots.cons rfl (by first | exact .refl _ | exact .nilOwn _ _ | exact .nilSl _ | exact .ownSl _ _ _  | exact SV.le.ownEq (by first | rfl | (rw [et, ← List.append_assoc (out ++ gone), List.map_append (l₁ := ((out ++ gone) ++ ((namesF a).take k).filterMap (chgF a b)))]; rfl) | (rw [et]; first | done | rfl)) | exact SV.le.of_eq (by first | rfl | (rw [et, ← List.append_assoc (out ++ gone), List.map_append (l₁ := ((out ++ gone) ++ ((namesF a).take k).filterMap (chgF a b)))]; rfl) | (rw [et]; first | done | rfl))) Slots.nil))))))), (by first | exact List.Sublist.refl _ | exact .cons_cons _ (.cons _ (.refl _)) | exact List.nil_sublist _ | exact .cons _ (.refl _) | exact .cons _ (.cons _ (.refl _)) | exact .cons _ (.cons _ (.cons _ (.refl _))) | exact .cons _ (.cons _ (.cons _ (.cons _ (.refl _)))) | exact .cons_cons _ (List.nil_sublist _))⟩, (by omega), ⟨k + 1, rfl, rfl, (by omega)⟩⟩
      ·
        have hge : (namesF a).length ≤ k := by have := of_decide_eq_false hc2; simp at this; omega
        have hkl : (namesF a).take k = namesF a := List.take_of_length_le hge
        rw [hkl]
        have hf2 : ((namesF a).filterMap (chgF a b)).length ≤ (namesF a).length := List.length_filterMap_le _ _
        refine awp_exit ?_
        refine x_thenE ?_
        refine x_thenE ?_
        refine x_blockE ?_
        refine x_then ?_
        refine awp_seq ?_
        refine awp_seq ?_
        refine awp_region ?_
        refine r_move rfl rfl ?_
        first | (refine r_lenS rfl rfl TF.sl74 rfl ?_) | (refine r_lenNil rfl TF.sl74 rfl ?_) | (refine r_lenV rfl TF.sl74 rfl ?_)
        refine r_move rfl rfl ?_
        refine awl_nil ?_
        refine x_then ?_
        refine awp_block ?_
        refine awp_loop (fun nn0 S => ∃ k : Nat, S = ⟨111, [(6, .a (.cp [.v (.map (some by_))])), (9, .own 9 4 (((out ++ gone) ++ (namesF a).filterMap (chgF a b) ++ (came.take k).map (addF b)).map FC.cs)), (94, .a (.v (.slice (some ⟨g2, 0, none⟩) came.length cap))), (95, .a (.v (.int .i64 (came.length)))), (96, .a (.v (.int .i64 ((k : Int)))))], [⟨g2, true, .box (strsC came ++ ext)⟩, ⟨bx, true, .map (encM Value.string bts mx)⟩, ⟨by_, true, .map (encM Value.string bts my)⟩]⟩ ∧ nn0 = came.length - k ∧ (k ≤ came.length)) (came.length - (0)) ⟨111, [(6, .a (.cp [.v (.map (some by_))])), (9, .own 9 4 (((out ++ gone) ++ (namesF a).filterMap (chgF a b) ++ (came.take (0)).map (addF b)).map FC.cs)), (94, .a (.v (.slice (some ⟨g2, 0, none⟩) came.length cap))), (95, .a (.v (.int .i64 (came.length)))), (96, .a (.v (.int .i64 (((0) : Int)))))], [⟨g2, true, .box (strsC came ++ ext)⟩, ⟨bx, true, .map (encM Value.string bts mx)⟩, ⟨by_, true, .map (encM Value.string bts my)⟩]⟩ ⟨rfl, (Slots.cons rfl (by first | exact .refl _ | exact .nilOwn _ _ | exact .nilSl _ | exact .ownSl _ _ _  | exact SV.le.ownEq (by simp) | exact SV.le.of_eq (by simp)) (Slots.cons rfl (by first | exact .refl _ | exact .nilOwn _ _ | exact .nilSl _ | exact .ownSl _ _ _  | exact SV.le.ownEq (by simp) | exact SV.le.of_eq (by simp)) (Slots.cons rfl (by first | exact .refl _ | exact .nilOwn _ _ | exact .nilSl _ | exact .ownSl _ _ _  | exact SV.le.ownEq (by simp) | exact SV.le.of_eq (by simp)) (Slots.cons rfl (by first | exact .refl _ | exact .nilOwn _ _ | exact .nilSl _ | exact .ownSl _ _ _  | exact SV.le.ownEq (by simp) | exact SV.le.of_eq (by simp)) (Slots.cons rfl (by first | exact .refl _ | exact .nilOwn _ _ | exact .nilSl _ | exact .ownSl _ _ _  | exact SV.le.ownEq (by simp) | exact SV.le.of_eq (by simp)) Slots.nil))))), (by first | exact List.Sublist.refl _ | exact .cons_cons _ (.cons _ (.refl _)) | exact List.nil_sublist _ | exact .cons _ (.refl _) | exact .cons _ (.cons _ (.refl _)) | exact .cons _ (.cons _ (.cons _ (.refl _))) | exact .cons _ (.cons _ (.cons _ (.cons _ (.refl _)))) | exact .cons_cons _ (List.nil_sublist _))⟩ ⟨0, rfl, rfl, Nat.zero_le _⟩ ?_
        rintro nn0 _ ⟨k, rfl, rfl, hk2⟩
        refine awp_seq ?_
        refine awp_region ?_
        refine r_cmp rfl rfl rfl rfl ?_
        refine awl_nil ?_
        refine x_then ?_
        refine awp_seq ?_
        refine awp_cond rfl (fun hc4 => ?_) (fun hc4 => ?_)
        ·
          have hltx : k < came.length := by have := of_decide_eq_true hc4; simpa using this
          obtain ⟨x, hx⟩ := get_lt hltx
          refine awp_skip ?_
          refine x_then ?_
          refine awp_seq ?_
          refine awp_block ?_
          refine awp_seq ?_
          refine awp_region ?_
          refine r_indexV rfl rfl TF.sl74 TF.sz9 (by omega) (by omega) rfl ?_
          refine r_load1b 0 rfl rfl (str_at hx) TF.agg9 rfl ?_
          refine r_assign rfl rfl ?_
          refine awl_nil ?_
          refine x_then ?_
          refine awp_region ?_
          refine r_move rfl rfl ?_
          refine r_move rfl rfl ?_
          first | (refine r_load1 rfl TF.agg72 rfl ?_) | (refine r_load1b 0 rfl rfl rfl TF.agg72 rfl ?_) | (refine r_load1b 1 rfl rfl rfl TF.agg72 rfl ?_) | (refine r_load1b 2 rfl rfl rfl TF.agg72 rfl ?_)
          refine r_move rfl rfl ?_
          first | (refine r_lookup 0 (keyEnc_string TF.un9) (ev := bts) [] rfl rfl rfl TF.map72 TF.zavS rfl ?_) | (refine r_lookup 1 (keyEnc_string TF.un9) (ev := bts) [] rfl rfl rfl TF.map72 TF.zavS rfl ?_) | (refine r_lookup 2 (keyEnc_string TF.un9) (ev := bts) [] rfl rfl rfl TF.map72 TF.zavS rfl ?_)
          refine r_call0 hq rfl rfl (.cons (.ev rfl rfl) .nil) (clone_ok _ (by rw [hty.get]; exact look_len hdb x)) rfl TF.en39 rfl (fun r hr => ?_)
          obtain rfl := hr
          refine r_build (parts := [(0, .const ((Go.Value.int Go.IntKind.i64 1))), (1, .tmp 101), (3, .tmp 105)]) rfl TF.pl44 TF.zero44 rfl rfl rfl ?_
          refine r_lit 107 (parts := [(0, .tmp 106)]) rfl TF.sl39 TF.sz44 TF.zraw44 rfl rfl rfl rfl rfl rfl rfl ?_
          refine r_append 9 rfl (by first | exact .own _ | exact .nil) rfl (by first | exact .sl _ | exact .own _ _ | exact .nil) TF.sl39 TF.sz44 (by decide) TF.by44 TF.zlen44 (by simp [chunks] <;> omega) (by simp [chunks] <;> omega) rfl ?_
          refine r_assign rfl rfl ?_
          refine awl_nil ?_
          refine x_block ?_
          refine x_then ?_
          refine awp_region ?_
          refine r_ari _ rfl rfl rfl (wrap_id (by first | omega | (simp; omega))) rfl ?_
          refine r_move rfl rfl ?_
          refine awl_nil ?_
          refine x_then ?_
          have et : (((out ++ gone) ++ (namesF a).filterMap (chgF a b) ++ (came.take (k + 1)).map (addF b))).map FC.cs = (((out ++ gone) ++ (namesF a).filterMap (chgF a b) ++ (came.take k).map (addF b))).map FC.cs ++ [[.v (.int .i64 1), .v (.string x), .v (.string E0), bts ((mget my x).getD [])]] := by rw [hty.get, map_take hx, ← List.append_assoc, List.map_append]; rfl
          refine ⟨came.length - (k + 1), ⟨111, [(6, .a (.cp [.v (.map (some by_))])), (9, .own 9 4 (((out ++ gone) ++ (namesF a).filterMap (chgF a b) ++ (came.take (k + 1)).map (addF b)).map FC.cs)), (94, .a (.v (.slice (some ⟨g2, 0, none⟩) came.length cap))), (95, .a (.v (.int .i64 (came.length)))), (96, .a (.v (.int .i64 (((k + 1) : Int)))))], [⟨g2, true, .box (strsC came ++ ext)⟩, ⟨bx, true, .map (encM Value.string bts mx)⟩, ⟨by_, true, .map (encM Value.string bts my)⟩]⟩, ⟨rfl, (Slots.cons rfl (by first | exact .refl _ | exact .nilOwn _ _ | exact .nilSl _ | exact .ownSl _ _ _  | exact SV.le.ownEq (by first | rfl | (rw [et]; rfl)) | exact SV.le.of_eq (by first | rfl | (rw [et]; rfl))) (Slots.cons rfl (by first | exact .refl _ | exact .nilOwn _ _ | exact .nilSl _ | exact .ownSl _ _ _  | exact SV.le.ownEq (by first | rfl | (rw [et]; rfl)) | exact SV.le.of_eq (by first | rfl | (rw [et]; rfl))) (Slots.cons rfl (by first | exact .refl _ | exact .nilOwn _ _ | exact .nilSl _ | exact .ownSl _ _ _  | exact SV.le.ownEq (by first | rfl | (rw [et]; rfl)) | exact SV.le.of_eq (by first | rfl | (rw [et]; rfl))) (Slots.cons rfl (by first | exact .refl _ | exact .nilOwn _ _ | exact .nilSl _ | exact .ownSl _ _ _  | exact SV.le.ownEq (by first | rfl | (rw [et]; rfl)) | exact SV.le.of_eq (by first | rfl | (rw [et]; rfl))) (Slots.cons rfl (by first | exact .refl _ | exact .nilOwn _ _ | exact .nilSl _ | exact .ownSl _ _ _  | exact SV.le.ownEq (by first | rfl | (rw [et]; rfl)) | exact SV.le.of_eq (by first | rfl | (rw [et]; rfl))) Slots.nil))))), (by first | exact List.Sublist.refl _ | exact .cons_cons _ (.cons _ (.refl _)) | exact List.nil_sublist _ | exact .cons _ (.refl _) | exact .cons _ (.cons _ (.refl _)) | exact .cons _ (.cons _ (.cons _ (.refl _))) | exact .cons _ (.cons _ (.cons _ (.cons _ (.refl _)))) | exact .cons_cons _ (List.nil_sublist _))⟩, (by omega), ⟨k + 1, rfl, rfl, (by omega)⟩⟩
        ·
          have hge : came.length ≤ k := by have := of_decide_eq_false hc4; simp at this; omega
          have hkl2 : came.take k = came := List.take_of_length_le hge
          refine awp_exit ?_
          refine x_thenE ?_
          refine x_thenE ?_
          refine x_blockE ?_
          refine x_then ?_
          refine awp_seq ?_
          refine awp_region ?_
          refine r_move rfl rfl ?_
          refine r_assign rfl rfl ?_
          refine awl_nil ?_
          refine x_then ?_
          refine awp_ret ?_
          exact ⟨(.inl rfl), _, [], (.one (by first | exact .mk rfl rfl | exact .nil rfl)), ⟨rfl, by rw [hkl2, OfF, show splitE a b = (came, out, gone) from hst]; rfl⟩, (List.nil_sublist _), (by simp)⟩

end Go.Proofs.Ytmbfmnhcahhciaa.A

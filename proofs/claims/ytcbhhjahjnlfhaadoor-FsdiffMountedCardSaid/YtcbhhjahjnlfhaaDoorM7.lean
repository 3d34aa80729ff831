import Derived.WalkKit
import Derived.Below
import Derived.Laws.Rows
import Derived.Laws.CopyRow
import Derived.Laws.AppendOwn
import Derived.RangeFuncLeaves
import Derived.RangeFuncSeq
import Derived.RangeFuncCalls
import Derived.MapKept
import Derived.Orders
import Derived.Laws.IdiomStrings
import Derived.Laws.BytesArg
import Derived.Shelf.SlIter.Nil
import Derived.Shelf.SortM.Plain
import Derived.Shelf.SortM.SortNone
import Derived.Ground.GgzProg
import Derived.Ground.SlgmProg
import Derived.Test.YtcbhhjahjnlfhaaDoorProg
import Derived.KernelRfl
import Derived.RangeFuncBound
import Derived.Maps.RangeRun
import Derived.DeepKeys3
import Derived.Laws.StructEq
import Derived.Shelf.SlSortCmp.NoneTotal
import Derived.ChangeKeysEq
import Derived.Laws.MakeOwn
import Derived.ChangeArms
import Derived.ChangeOld
import Derived.Laws.DeepStrings4
import Derived.OpenShut
import Derived.OrdersIn
import Derived.Lib.AppendZeros
import Derived.Lib.AppendZerosOnto
import Derived.Lib.Overlaps
import Derived.Deep.AppendSrc
import Derived.Lib.BytesEntry
import Derived.Test.YtcbhhjahjnlfhaaDoorRows
import Derived.ProofKit
import Derived.LaidMore
import Derived.Stop.Joined
import Derived.Test.YtcbhhjahjnlfhaaDoorM6
namespace Go.Proofs.YtcbhhjahjnlfhaaDoor.A
open Go Go.RowKit
set_option linter.unusedVariables false
set_option linter.unusedSimpArgs false
set_option maxRecDepth 100000
theorem TG.agg59 : aggT Tryd.prog 59 = some false := by kernel_rfl
theorem TG.en71 : entersT Tryd.prog 71 := enters_of Tryd.func71 (by kernel_rfl) (by kernel_rfl)
theorem TG.en8 : entersT Tryd.prog 8 := enters_of Tryd.func8 (by kernel_rfl) (by kernel_rfl)
theorem TG.pl71 : placesT Tryd.prog 71 = some [(0, 1), (1, 1)] := by kernel_rfl
theorem TG.zero71 : ZeroT Tryd.prog 71 [.v (.string ⟨#[]⟩), .sl 1 []] := ⟨[(.string ⟨#[]⟩), (.slice none 0 0)], by kernel_rfl, (.cons (.refl _) (.cons (.nil 1) .nil))⟩
theorem TG.sl65 : sliceT Tryd.prog 65 = some 71 := by kernel_rfl
theorem TG.sz71 : szT Tryd.prog 71 = some 2 := by kernel_rfl
theorem TG.zraw71 : zeroT Tryd.prog 71 = some [(.string ⟨#[]⟩), (.slice none 0 0)] := by kernel_rfl
theorem TG.by71 : bytesT Tryd.prog 71 = some 40 := by kernel_rfl
theorem TG.zlen71 : (zeroT Tryd.prog 71).map (·.length) = some 2 := by kernel_rfl
theorem TG.en19 : entersT Tryd.prog 19 := enters_of Tryd.func19 (by kernel_rfl) (by kernel_rfl)
theorem TG.en27 : entersT Tryd.prog 27 := enters_of Tryd.func27 (by kernel_rfl) (by kernel_rfl)
theorem TG.en20 : entersT Tryd.prog 20 := enters_of Tryd.func20 (by kernel_rfl) (by kernel_rfl)
theorem TG.en21 : entersT Tryd.prog 21 := enters_of Tryd.func21 (by kernel_rfl) (by kernel_rfl)
theorem TG.en23 : entersT Tryd.prog 23 := enters_of Tryd.func23 (by kernel_rfl) (by kernel_rfl)
theorem TG.en18 : entersT Tryd.prog 18 := enters_of Tryd.func18 (by kernel_rfl) (by kernel_rfl)
theorem TG.sl57 : sliceT Tryd.prog 57 = some 70 := by kernel_rfl
theorem TG.sz70 : szT Tryd.prog 70 = some 4 := by kernel_rfl
theorem TG.f70_0 : fieldT Tryd.prog 70 0 = some (0, 3) := by kernel_rfl
theorem TG.f70_1 : fieldT Tryd.prog 70 1 = some (1, 9) := by kernel_rfl
theorem TG.f70_2 : fieldT Tryd.prog 70 2 = some (2, 9) := by kernel_rfl
theorem TG.f70_3 : fieldT Tryd.prog 70 3 = some (3, 22) := by kernel_rfl
theorem TG.en28 : entersT Tryd.prog 28 := enters_of Tryd.func28 (by kernel_rfl) (by kernel_rfl)
theorem TG.en17 : entersT Tryd.prog 17 := enters_of Tryd.func17 (by kernel_rfl) (by kernel_rfl)
theorem TG.en31 : entersT Tryd.prog 31 := enters_of Tryd.func31 (by kernel_rfl) (by kernel_rfl)
theorem TG.en30 : entersT Tryd.prog 30 := enters_of Tryd.func30 (by kernel_rfl) (by kernel_rfl)
theorem TG.en29 : entersT Tryd.prog 29 := enters_of Tryd.func29 (by kernel_rfl) (by kernel_rfl)
theorem read1_ok (D : List Blk) (hD : D.length ≤ 1000000) (k : Nat) (b : Blk) (hb : D[k]? = some b) : AC Tryd.prog 71 [.v (.int .i64 (k : Int)), .cp [blksA D]] [] (fun r n => n = [] ∧ r = .tup [blkA b, .v (.bool true)]) := by
 refine ac_of_awpG (Res2K Tryd.prog (.cell 3 33) (.tmp 4)) (nt := 18) Tryd.func71 rfl rfl rfl (resK2_run rfl) (fun w0 C0 hq => ?_)
 refine awp_seq ?_
 refine awp_region ?_
 refine r_alloc TG.zero33 rfl (fun b3 => ?_)
 refine r_assign rfl rfl ?_
 refine awl_nil ?_
 refine x_then ?_
 refine awp_seq ?_
 refine awp_seq ?_
 refine awp_region ?_
 refine r_move rfl rfl ?_
 refine r_cmp rfl rfl rfl rfl ?_
 refine r_move rfl rfl ?_
 refine g_run rfl rfl (decide_eq_false (by omega)) ?_
 refine r_move rfl rfl ?_
 refine g_run rfl rfl (decide_eq_false (by omega)) ?_
 first | (refine r_load1 rfl TG.agg59 rfl ?_) | (refine r_load1b 0 rfl rfl rfl TG.agg59 rfl ?_)
 refine g_run rfl rfl (decide_eq_false (by omega)) ?_
 first | (refine r_lenS rfl rfl TG.sl59 rfl ?_) | (refine r_lenNil rfl TG.sl59 rfl ?_) | (refine r_lenV rfl TG.sl59 rfl ?_)
 refine g_run rfl rfl (decide_eq_false (by omega)) ?_
 refine r_cmp rfl rfl rfl rfl ?_
 refine r_pickF rfl (decide_eq_false (by omega)) rfl rfl ?_
 refine awl_nil ?_
 refine x_then ?_
 refine awp_cond rfl (fun hc0 => ?_) (fun hc0 => ?_)
 ·
  exfalso; have := of_decide_eq_true hc0; have hk := (List.getElem?_eq_some_iff.1 hb).1; simp at this; omega
 ·
  refine awp_skip ?_
  refine x_then ?_
  refine awp_seq ?_
  refine awp_region ?_
  first | (refine r_load1 rfl TG.agg59 rfl ?_) | (refine r_load1b 0 rfl rfl rfl TG.agg59 rfl ?_)
  refine r_move rfl rfl ?_
  refine r_index rfl rfl rfl TG.sl59 TG.sz33 (by omega) (get_map hb) rfl ?_
  first | (refine r_loadA rfl TG.agg33 TG.sz33 rfl rfl ?_) | (refine r_loadAb 0 rfl rfl TG.agg33 TG.sz33 rfl rfl ?_)
  refine r_store 0 rfl rfl rfl TG.sz33 rfl rfl rfl ?_
  refine r_assign rfl rfl ?_
  refine awl_nil ?_
  refine x_then ?_
  refine awp_ret ?_
  exact ⟨(.inl rfl), _, [], ⟨_, _, (.box (by first | exact .mk' 0 rfl rfl TG.agg33 TG.sz33 rfl | exact .mk' 1 rfl rfl TG.agg33 TG.sz33 rfl | exact .mk' 2 rfl rfl TG.agg33 TG.sz33 rfl | exact .mk' 3 rfl rfl TG.agg33 TG.sz33 rfl | exact .mk' 4 rfl rfl TG.agg33 TG.sz33 rfl | exact .mk' 5 rfl rfl TG.agg33 TG.sz33 rfl)), (.tmp (by first | exact .mk rfl rfl | exact .nil rfl)), rfl⟩, ⟨rfl, rfl⟩, (List.nil_sublist _), (by simp)⟩
theorem read_ok (l : List File) (hok : okFs l = true) : AWC MG Tryd.prog 27 [blksA (diskF l)] [] [] (fun r n => n = [] ∧ r = files l) := by
 refine awc_of_awpG MG (so := []) (nt := 11) (fun S r => Result1 S [2] r) Tryd.func27 rfl rfl rfl rfl (result1_run rfl) (fun w0 C0 hq hcs => ?_)
 refine awp_seq ?_
 refine awp_region ?_
 refine r_box rfl rfl rfl (fun b1 => ?_)
 refine r_assign rfl rfl ?_
 refine awl_nil ?_
 refine x_then ?_
 refine awp_seq ?_
 refine awp_region ?_
 refine awl_imp (imp_commit 0 1 rfl rfl rfl rfl) ?_
 refine r_makeFunc rfl (.cons (.ev rfl rfl) .nil) rfl ?_
 refine r_callPC hq MG hcs (wo := []) (un := []) rfl rfl (.cons (.ev rfl rfl) .nil) (readD_ok l hok TG.en71 (os := []) (fun k b h => read1_ok (diskF l) (by have := diskF_len hok; omega) k b h)) rfl TG.en8 (List.Perm.refl _) (List.nil_sublist _) rfl (fun r nobjs hr => ?_)
 obtain ⟨rfl, rfl⟩ := hr
 refine r_move rfl rfl ?_
 refine r_extract rfl rfl rfl ?_
 refine r_extract rfl rfl rfl ?_
 refine r_assign rfl rfl ?_
 refine r_assign rfl rfl ?_
 refine awl_nil ?_
 refine x_then ?_
 refine awp_seq ?_
 refine awp_region ?_
 refine r_move rfl rfl ?_
 refine r_assign rfl rfl ?_
 refine awl_nil ?_
 refine x_then ?_
 refine awp_ret ?_
 exact ⟨(.inl rfl), _, [], (.one (by first | exact .mk rfl rfl | exact .nil rfl)), ⟨rfl, rfl⟩, (List.nil_sublist _), (by simp)⟩
theorem plain_ok (l : List File) (hl : l.length ≤ 1000000) : AC Tryd.prog 31 [files l] [] (fun r n => n = [] ∧ r = files l) := by
 refine ac_of_awp (rs := [2]) (nt := 22) Tryd.func31 rfl rfl rfl rfl (fun w0 C0 hq => ?_)
 refine awp_seq ?_
 refine awp_region ?_
 refine r_assign rfl rfl ?_
 refine awl_nil ?_
 refine x_then ?_
 refine awp_seq ?_
 refine awp_region ?_
 refine r_assign rfl rfl ?_
 refine awl_nil ?_
 refine x_then ?_
 refine awp_seq ?_
 refine awp_seq ?_
 refine awp_region ?_
 refine r_move rfl rfl ?_
 first | (refine r_lenS rfl rfl TG.sl24 rfl ?_) | (refine r_lenNil rfl TG.sl24 rfl ?_) | (refine r_lenV rfl TG.sl24 rfl ?_)
 refine r_move rfl rfl ?_
 refine awl_nil ?_
 refine x_then ?_
 refine awp_block ?_
 refine awp_loop (fun nn0 S => ∃ k : Nat, S = ⟨22, [(3, .own 3 2 ((l.take k).map File.cs)), (6, .a (files l)), (7, .a (.v (.int .i64 ((l.map File.cs).length)))), (8, .a (.v (.int .i64 ((k : Int)))))], []⟩ ∧ nn0 = l.length - k ∧ (k ≤ l.length)) (l.length - (0)) ⟨22, [(3, .own 3 2 ((l.take (0)).map File.cs)), (6, .a (files l)), (7, .a (.v (.int .i64 ((l.map File.cs).length)))), (8, .a (.v (.int .i64 (((0) : Int)))))], []⟩ ⟨rfl, (Slots.cons rfl (by first | exact .refl _ | exact .nilOwn _ _ | exact .nilSl _ | exact .ownSl _ _ _  | exact SV.le.of_eq (by simp)) (Slots.cons rfl (by first | exact .refl _ | exact .nilOwn _ _ | exact .nilSl _ | exact .ownSl _ _ _  | exact SV.le.of_eq (by simp)) (Slots.cons rfl (by first | exact .refl _ | exact .nilOwn _ _ | exact .nilSl _ | exact .ownSl _ _ _  | exact SV.le.of_eq (by simp)) (Slots.cons rfl (by first | exact .refl _ | exact .nilOwn _ _ | exact .nilSl _ | exact .ownSl _ _ _  | exact SV.le.of_eq (by simp)) Slots.nil)))), (by first | exact List.Sublist.refl _ | exact .cons_cons _ (.cons _ (.refl _)) | exact List.nil_sublist _ | exact .cons _ (.refl _) | exact .cons _ (.cons _ (.refl _)) | exact .cons _ (.cons _ (.cons _ (.refl _))) | exact .cons _ (.cons _ (.cons _ (.cons _ (.refl _)))) | exact .cons_cons _ (List.nil_sublist _))⟩ ⟨0, rfl, rfl, Nat.zero_le _⟩ ?_
 rintro nn0 _ ⟨k, rfl, rfl, hk⟩
 refine awp_seq ?_
 refine awp_region ?_
 refine r_cmp rfl rfl rfl rfl ?_
 refine awl_nil ?_
 refine x_then ?_
 refine awp_seq ?_
 refine awp_cond rfl (fun hc0 => ?_) (fun hc0 => ?_)
 ·
  have hltx : k < l.length := by have := of_decide_eq_true hc0; simpa using this
  obtain ⟨x, hx⟩ := get_lt hltx
  refine awp_skip ?_
  refine x_then ?_
  refine awp_seq ?_
  refine awp_block ?_
  refine awp_seq ?_
  refine awp_region ?_
  refine r_index rfl rfl rfl TG.sl24 TG.sz26 (by omega) (get_map hx) rfl ?_
  refine r_loadA rfl TG.agg26 TG.sz26 rfl rfl ?_
  refine r_alloc TG.zero26 rfl (fun b5 => ?_)
  refine r_store 0 rfl rfl rfl TG.sz26 rfl rfl rfl ?_
  refine awl_nil ?_
  refine x_then ?_
  refine awp_region ?_
  refine r_move rfl rfl ?_
  first | (refine r_fieldpt rfl TG.f26_0 TG.sz9 rfl ?_) | (refine r_fieldcp rfl TG.f26_0 TG.sz9 rfl ?_) | (refine r_fieldb rfl TG.f26_0 TG.sz9 rfl ?_)
  first | (refine r_load1b 0 rfl rfl rfl TG.agg9 rfl ?_) | (refine r_load1 rfl TG.agg9 rfl ?_)
  first | (refine r_fieldpt rfl TG.f26_1 TG.sz22 rfl ?_) | (refine r_fieldcp rfl TG.f26_1 TG.sz22 rfl ?_) | (refine r_fieldb rfl TG.f26_1 TG.sz22 rfl ?_)
  first | (refine r_load1b 0 rfl rfl rfl TG.agg22 rfl ?_) | (refine r_load1 rfl TG.agg22 rfl ?_)
  refine r_build (parts := [(0, .tmp 14), (1, .tmp 16)]) rfl TG.pl71 TG.zero71 rfl rfl rfl ?_
  refine r_lit 18 (parts := [(0, .tmp 17)]) rfl TG.sl65 TG.sz71 TG.zraw71 rfl rfl rfl rfl rfl rfl rfl ?_
  refine r_append 3 rfl (by first | exact .own _ | exact .nil) rfl (by first | exact .sl _ | exact .own _ _ | exact .nil) TG.sl65 TG.sz71 (by decide) TG.by71 TG.zlen71 (by simp [chunks] <;> omega) (by simp [chunks] <;> omega) rfl ?_
  refine r_assign rfl rfl ?_
  refine awl_nil ?_
  refine x_block ?_
  refine x_then ?_
  refine awp_region ?_
  refine r_ari _ rfl rfl rfl (wrap_id (by first | omega | (simp; omega))) rfl ?_
  refine r_move rfl rfl ?_
  refine awl_nil ?_
  refine x_then ?_
  refine ⟨l.length - (k + 1), ⟨22, [(3, .own 3 2 ((l.take (k + 1)).map File.cs)), (6, .a (files l)), (7, .a (.v (.int .i64 ((l.map File.cs).length)))), (8, .a (.v (.int .i64 (((k + 1) : Int)))))], []⟩, ⟨rfl, (Slots.cons rfl (by first | exact .refl _ | exact .nilOwn _ _ | exact .nilSl _ | exact .ownSl _ _ _  | exact SV.le.ownEq (by first | rfl | (rw [takeS hx, List.map_append]; rfl)) | exact SV.le.of_eq (by first | rfl | (rw [takeS hx, List.map_append]; rfl))) (Slots.cons rfl (by first | exact .refl _ | exact .nilOwn _ _ | exact .nilSl _ | exact .ownSl _ _ _  | exact SV.le.ownEq (by first | rfl | (rw [takeS hx, List.map_append]; rfl)) | exact SV.le.of_eq (by first | rfl | (rw [takeS hx, List.map_append]; rfl))) (Slots.cons rfl (by first | exact .refl _ | exact .nilOwn _ _ | exact .nilSl _ | exact .ownSl _ _ _  | exact SV.le.ownEq (by first | rfl | (rw [takeS hx, List.map_append]; rfl)) | exact SV.le.of_eq (by first | rfl | (rw [takeS hx, List.map_append]; rfl))) (Slots.cons rfl (by first | exact .refl _ | exact .nilOwn _ _ | exact .nilSl _ | exact .ownSl _ _ _  | exact SV.le.ownEq (by first | rfl | (rw [takeS hx, List.map_append]; rfl)) | exact SV.le.of_eq (by first | rfl | (rw [takeS hx, List.map_append]; rfl))) Slots.nil)))), (by first | exact List.Sublist.refl _ | exact .cons_cons _ (.cons _ (.refl _)) | exact List.nil_sublist _ | exact .cons _ (.refl _) | exact .cons _ (.cons _ (.refl _)) | exact .cons _ (.cons _ (.cons _ (.refl _))) | exact .cons _ (.cons _ (.cons _ (.cons _ (.refl _)))) | exact .cons_cons _ (List.nil_sublist _))⟩, (by omega), ⟨k + 1, rfl, rfl, (by omega)⟩⟩
 ·
  have hge : l.length ≤ k := by have := of_decide_eq_false hc0; simp at this; omega
  have hkl : l.take k = l := List.take_of_length_le hge
  refine awp_exit ?_
  refine x_thenE ?_
  refine x_thenE ?_
  refine x_blockE ?_
  refine x_then ?_
  refine awp_seq ?_
  refine awp_region ?_
  refine r_move rfl rfl ?_
  refine r_assign rfl rfl ?_
  refine awl_nil ?_
  refine x_then ?_
  refine awp_ret ?_
  exact ⟨(.inl rfl), _, [], (.one (by first | exact .mk rfl rfl | exact .nil rfl)), ⟨rfl, by rw [hkl]; rfl⟩, (List.nil_sublist _), (by simp)⟩
set_option maxHeartbeats 4000000 in
theorem mounted_law (a b : List File) : AWC MG Tryd.prog 5 [files a, files b] [] [] (fun r n => n = [] ∧ r = boolA true) := by
 refine awc_of_awpG MG (so := []) (nt := 152) (fun S r => Result1 S [4] r) Tryd.func5 rfl rfl rfl rfl (result1_run rfl) (fun w0 C0 hq hcs => ?_)
 refine awp_seq ?_
 refine awp_region ?_
 refine r_assign rfl rfl ?_
 refine awl_nil ?_
 refine x_then ?_
 refine awp_seq ?_
 refine awp_seq ?_
 refine awp_region ?_
 refine r_call0 hq rfl rfl .nil (awake_ok) rfl TG.en20 rfl (fun r hr => ?_)
 obtain rfl := hr
 refine r_not rfl rfl ?_
 refine awl_nil ?_
 refine x_then ?_
 refine awp_cond rfl (fun hc0 => ?_) (fun hc0 => ?_)
 ·
  exfalso; exact absurd hc0 (by decide)
 ·
  refine awp_skip ?_
  refine x_then ?_
  refine awp_seq ?_
  refine awp_seq ?_
  refine awp_region ?_
  refine r_move rfl rfl ?_
  refine r_call0 hq rfl rfl (.cons (.ev rfl rfl) .nil) (small_ok a) rfl TG.en21 rfl (fun r hr => ?_)
  rcases hr with rfl | ⟨rfl, h12a, hsa⟩
  ·
   refine r_cmp rfl rfl rfl rfl ?_
   refine r_move rfl rfl ?_
   refine g_skip rfl rfl rfl rfl ?_
   refine g_skip rfl rfl rfl rfl ?_
   refine g_skip rfl rfl rfl rfl ?_
   refine r_pickT rfl rfl rfl rfl ?_
   refine awl_nil ?_
   refine x_then ?_
   refine awp_condT rfl ?_
   refine awp_seq ?_
   refine awp_region ?_
   refine r_assign rfl rfl ?_
   refine awl_nil ?_
   refine x_then ?_
   refine awp_ret ?_
   refine x_thenR ?_
   exact ⟨(.inl rfl), _, [], (.one (by first | exact .mk rfl rfl | exact .nil rfl)), ⟨rfl, rfl⟩, (List.nil_sublist _), (by simp)⟩
  ·
   have hla : a.length ≤ 1000 := by omega
   have hna : ∀ f ∈ a, f.name.size ≤ 1000000 := fun f hf => by have := (hsa f hf).1; omega
   have hda : ∀ f ∈ a, f.data.length ≤ 1000000 := fun f hf => by have := (hsa f hf).2; omega
   refine r_cmp rfl rfl rfl rfl ?_
   refine r_move rfl rfl ?_
   refine g_run rfl rfl rfl ?_
   refine r_move rfl rfl ?_
   refine g_run rfl rfl rfl ?_
   refine r_call0 hq rfl rfl (.cons (.ev rfl rfl) .nil) (small_ok b) rfl TG.en21 rfl (fun r hr => ?_)
   rcases hr with rfl | ⟨rfl, h12b, hsb⟩
   ·
    refine g_run rfl rfl rfl ?_
    refine r_cmp rfl rfl rfl rfl ?_
    refine r_pickF rfl rfl rfl rfl ?_
    refine awl_nil ?_
    refine x_then ?_
    refine awp_cond rfl (fun hc1 => ?_) (fun hc1 => ?_)
    ·
     refine awp_seq ?_
     refine awp_region ?_
     refine r_assign rfl rfl ?_
     refine awl_nil ?_
     refine x_then ?_
     refine awp_ret ?_
     refine x_thenR ?_
     exact ⟨(.inl rfl), _, [], (.one (by first | exact .mk rfl rfl | exact .nil rfl)), ⟨rfl, rfl⟩, (List.nil_sublist _), (by simp)⟩
    ·
     exfalso; exact absurd hc1 (by decide)
   ·
    have hlb : b.length ≤ 1000 := by omega
    have hnb : ∀ f ∈ b, f.name.size ≤ 1000000 := fun f hf => by have := (hsb f hf).1; omega
    have hdb : ∀ f ∈ b, f.data.length ≤ 1000000 := fun f hf => by have := (hsb f hf).2; omega
    refine g_run rfl rfl rfl ?_
    refine r_cmp rfl rfl rfl rfl ?_
    refine r_pickF rfl rfl rfl rfl ?_
    refine awl_nil ?_
    refine x_then ?_
    refine awp_cond rfl (fun hc1 => ?_) (fun hc1 => ?_)
    ·
     exfalso; exact absurd hc1 (by decide)
    ·
     refine awp_skip ?_
     refine x_then ?_
     refine awp_seq ?_
     refine awp_region ?_
     refine r_move rfl rfl ?_
     refine r_call0 hq rfl rfl (.cons (.ev rfl rfl) .nil) (files_ok a (by omega) hda) rfl TG.en23 rfl (fun r hr => ?_)
     obtain rfl := hr
     refine r_callPC hq MG hcs (wo := []) (un := []) rfl rfl (.cons (.ev rfl rfl) .nil) (make_ok a (by omega) hna hda) rfl TG.en19 (List.Perm.refl _) (List.nil_sublist _) rfl (fun r nobjs hr => ?_)
     obtain ⟨rfl, hr⟩ := hr
     rcases hr with ⟨hoka, rfl⟩ | ⟨hnoa, e, hne, rfl⟩
     ·
      refine r_move rfl rfl ?_
      refine r_extract rfl rfl rfl ?_
      refine r_extract rfl rfl rfl ?_
      refine r_assign rfl rfl ?_
      refine r_assign rfl rfl ?_
      refine awl_nil ?_
      refine x_then ?_
      refine awp_seq ?_
      refine awp_region ?_
      refine r_move rfl rfl ?_
      refine r_call0 hq rfl rfl (.cons (.ev rfl rfl) .nil) (files_ok b (by omega) hdb) rfl TG.en23 rfl (fun r hr => ?_)
      obtain rfl := hr
      refine r_callPC hq MG hcs (wo := []) (un := []) rfl rfl (.cons (.ev rfl rfl) .nil) (make_ok b (by omega) hnb hdb) rfl TG.en19 (List.Perm.refl _) (List.nil_sublist _) rfl (fun r nobjs hr => ?_)
      obtain ⟨rfl, hr⟩ := hr
      rcases hr with ⟨hokb, rfl⟩ | ⟨hnob, e2, hne2, rfl⟩
      ·
       refine r_move rfl rfl ?_
       refine r_extract rfl rfl rfl ?_
       refine r_extract rfl rfl rfl ?_
       refine r_assign rfl rfl ?_
       refine r_assign rfl rfl ?_
       refine awl_nil ?_
       refine x_then ?_
       refine awp_seq ?_
       refine awp_seq ?_
       refine awp_region ?_
       refine r_move rfl rfl ?_
       refine r_cmp rfl rfl rfl rfl ?_
       refine r_move rfl rfl ?_
       refine g_run rfl rfl rfl ?_
       refine r_move rfl rfl ?_
       refine g_run rfl rfl rfl ?_
       refine r_cmp rfl rfl rfl rfl ?_
       refine r_pickF rfl rfl rfl rfl ?_
       refine awl_nil ?_
       refine x_then ?_
       refine awp_cond rfl (fun hc2 => ?_) (fun hc2 => ?_)
       ·
        exfalso; exact absurd hc2 (by decide)
       ·
        refine awp_skip ?_
        refine x_then ?_
        refine awp_seq ?_
        refine awp_region ?_
        refine r_move rfl rfl ?_
        refine r_callPC hq MG hcs (wo := []) (un := []) rfl rfl (.cons (.ev rfl rfl) .nil) (read_ok a hoka) rfl TG.en27 (List.Perm.refl _) (List.nil_sublist _) rfl (fun r nobjs hr => ?_)
        obtain ⟨rfl, rfl⟩ := hr
        refine r_move rfl rfl ?_
        refine r_callPC hq MG hcs (wo := []) (un := []) rfl rfl (.cons (.ev rfl rfl) .nil) (read_ok b hokb) rfl TG.en27 (List.Perm.refl _) (List.nil_sublist _) rfl (fun r nobjs hr => ?_)
        obtain ⟨rfl, rfl⟩ := hr
        refine r_assign rfl rfl ?_
        refine r_assign rfl rfl ?_
        refine awl_nil ?_
        refine x_then ?_
        refine awp_seq ?_
        refine awp_region ?_
        refine r_move rfl rfl ?_
        refine r_move rfl rfl ?_
        refine r_call0 hq rfl rfl (.cons (.ev rfl rfl) (.cons (.ev rfl rfl) .nil)) (of_ok a b hla hlb hna hnb hda hdb) rfl TG.en18 rfl (fun r hr => ?_)
        obtain rfl := hr
        have hol := of_len a b
        have hcl := clean_len b
        refine r_move rfl rfl ?_
        refine r_call0 hq rfl rfl (.cons (.ev rfl rfl) .nil) (files_ok a (by omega) hda) rfl TG.en23 rfl (fun r hr => ?_)
        obtain rfl := hr
        refine r_move rfl rfl ?_
        refine r_call0 hq rfl rfl (.cons (.ev rfl rfl) .nil) (files_ok b (by omega) hdb) rfl TG.en23 rfl (fun r hr => ?_)
        obtain rfl := hr
        refine r_call0 hq rfl rfl (.cons (.ev rfl rfl) (.cons (.ev rfl rfl) .nil)) (of_ok a b hla hlb hna hnb hda hdb) rfl TG.en18 rfl (fun r hr => ?_)
        obtain rfl := hr
        refine r_assign rfl rfl ?_
        refine r_assign rfl rfl ?_
        refine awl_nil ?_
        refine x_then ?_
        refine awp_seq ?_
        refine awp_seq ?_
        refine awp_region ?_
        refine r_move rfl rfl ?_
        first | (refine r_lenS rfl rfl TG.sl57 rfl ?_) | (refine r_lenNil rfl TG.sl57 rfl ?_) | (refine r_lenV rfl TG.sl57 rfl ?_)
        refine r_move rfl rfl ?_
        first | (refine r_lenS rfl rfl TG.sl57 rfl ?_) | (refine r_lenNil rfl TG.sl57 rfl ?_) | (refine r_lenV rfl TG.sl57 rfl ?_)
        refine r_cmp rfl rfl rfl rfl ?_
        refine awl_nil ?_
        refine x_then ?_
        refine awp_cond rfl (fun hc3 => ?_) (fun hc3 => ?_)
        ·
         exfalso; simp at hc3
        ·
         refine awp_skip ?_
         refine x_then ?_
         refine awp_seq ?_
         refine awp_seq ?_
         refine awp_region ?_
         refine r_move rfl rfl ?_
         first | (refine r_lenS rfl rfl TG.sl57 rfl ?_) | (refine r_lenNil rfl TG.sl57 rfl ?_) | (refine r_lenV rfl TG.sl57 rfl ?_)
         refine r_move rfl rfl ?_
         refine awl_nil ?_
         refine x_then ?_
         refine awp_block ?_
         refine awp_loop (fun nn0 S => ∃ k : Nat, S = ⟨152, [(9, .a (files a)), (10, .a (files b)), (11, .a (fcsA (OfF a b))), (12, .a (fcsA (OfF a b))), (64, .a (.v (.int .i64 (((OfF a b).map FC.cs).length)))), (65, .a (.v (.int .i64 ((k : Int)))))], []⟩ ∧ nn0 = (OfF a b).length - k ∧ (k ≤ (OfF a b).length)) ((OfF a b).length - (0)) ⟨152, [(9, .a (files a)), (10, .a (files b)), (11, .a (fcsA (OfF a b))), (12, .a (fcsA (OfF a b))), (64, .a (.v (.int .i64 (((OfF a b).map FC.cs).length)))), (65, .a (.v (.int .i64 (((0) : Int)))))], []⟩ ⟨rfl, (Slots.cons rfl (by first | exact .refl _ | exact .nilOwn _ _ | exact .nilSl _ | exact .ownSl _ _ _  | exact SV.le.of_eq (by simp)) (Slots.cons rfl (by first | exact .refl _ | exact .nilOwn _ _ | exact .nilSl _ | exact .ownSl _ _ _  | exact SV.le.of_eq (by simp)) (Slots.cons rfl (by first | exact .refl _ | exact .nilOwn _ _ | exact .nilSl _ | exact .ownSl _ _ _  | exact SV.le.of_eq (by simp)) (Slots.cons rfl (by first | exact .refl _ | exact .nilOwn _ _ | exact .nilSl _ | exact .ownSl _ _ _  | exact SV.le.of_eq (by simp)) (Slots.cons rfl (by first | exact .refl _ | exact .nilOwn _ _ | exact .nilSl _ | exact .ownSl _ _ _  | exact SV.le.of_eq (by simp)) (Slots.cons rfl (by first | exact .refl _ | exact .nilOwn _ _ | exact .nilSl _ | exact .ownSl _ _ _  | exact SV.le.of_eq (by simp)) Slots.nil)))))), (by first | exact List.Sublist.refl _ | exact .cons_cons _ (.cons _ (.refl _)) | exact List.nil_sublist _ | exact .cons _ (.refl _) | exact .cons _ (.cons _ (.refl _)) | exact .cons _ (.cons _ (.cons _ (.refl _))) | exact .cons _ (.cons _ (.cons _ (.cons _ (.refl _)))) | exact .cons_cons _ (List.nil_sublist _))⟩ ⟨0, rfl, rfl, Nat.zero_le _⟩ ?_
         rintro nn0 _ ⟨k, rfl, rfl, hk⟩
         refine awp_seq ?_
         refine awp_region ?_
         refine r_cmp rfl rfl rfl rfl ?_
         refine awl_nil ?_
         refine x_then ?_
         refine awp_seq ?_
         refine awp_cond rfl (fun hc4 => ?_) (fun hc4 => ?_)
         ·
          have hltx : k < (OfF a b).length := by have := of_decide_eq_true hc4; simpa using this
          obtain ⟨x, hx⟩ := get_lt hltx
          refine awp_skip ?_
          refine x_then ?_
          refine awp_seq ?_
          refine awp_block ?_
          refine awp_seq ?_
          refine awp_region ?_
          refine r_move rfl rfl ?_
          refine r_assign rfl rfl ?_
          refine awl_nil ?_
          refine x_then ?_
          refine awp_seq ?_
          refine awp_drawS [68, 69, 70, 71, 72, 73, 74, 75, 76, 77, 78, 79, 80, 81, 82, 83, 84, 85, 86, 87, 88, 89, 90, 91, 92, 93, 94, 95, 96, 97, 98, 99, 100, 101, 102, 103, 104, 105, 106, 107, 108, 109, 110, 111, 112, 113, 114, 115, 116, 117] [_, _, _, _, _, _, _, _, _, _, _, _, _, _, _, _, _, _, _, _, _, _, _, _, _, _, _, _, _, _, _, _, _, _, _, _, _, _, _, _, _, _, _, _, _, _, _, _, _, _] [] [] TG.mixed rfl rfl rfl ⟨⟨⟨⟨⟨⟨⟨⟨⟨⟨⟨⟨⟨⟨⟨⟨⟨⟨⟨⟨⟨⟨⟨⟨⟨⟨⟨⟨⟨⟨⟨⟨⟨⟨⟨⟨⟨⟨⟨⟨⟨⟨⟨⟨⟨⟨⟨⟨⟨⟨trivial
           , ⟨_, rfl, fun sl hd hr ho => by
             refine r_move (hr 11 _ rfl rfl rfl) rfl ?_
             exact awl_nil ⟨rfl, post_put⟩⟩⟩
           , ⟨_, rfl, fun sl hd hr ho => by
             refine r_move (hr 13 _ rfl rfl rfl) rfl ?_
             exact awl_nil ⟨rfl, post_put⟩⟩⟩
           , ⟨_, rfl, fun sl hd hr ho => by
             refine r_index (hd 0 _ rfl rfl rfl) rfl (hd 1 _ rfl rfl rfl) TG.sl57 TG.sz70 (by omega) (get_map hx) rfl ?_
             exact awl_nil ⟨rfl, post_put⟩⟩⟩
           , ⟨_, rfl, fun sl hd hr ho => by
             first | (refine r_fieldcp (hd 2 _ rfl rfl rfl) TG.f70_0 TG.sz3 rfl ?_) | (refine r_fieldpt (hd 2 _ rfl rfl rfl) TG.f70_0 TG.sz3 rfl ?_) | (refine r_fieldb (hd 2 _ rfl rfl rfl) TG.f70_0 TG.sz3 rfl ?_)
             exact awl_nil ⟨rfl, post_put⟩⟩⟩
           , ⟨_, rfl, fun sl hd hr ho => by
             refine r_load1 (hd 3 _ rfl rfl rfl) TG.agg3 rfl ?_
             exact awl_nil ⟨rfl, post_put⟩⟩⟩
           , ⟨_, rfl, fun sl hd hr ho => by
             refine r_move (hr 12 _ rfl rfl rfl) rfl ?_
             exact awl_nil ⟨rfl, post_put⟩⟩⟩
           , ⟨_, rfl, fun sl hd hr ho => by
             refine r_move (hr 13 _ rfl rfl rfl) rfl ?_
             exact awl_nil ⟨rfl, post_put⟩⟩⟩
           , ⟨_, rfl, fun sl hd hr ho => by
             refine r_index (hd 5 _ rfl rfl rfl) rfl (hd 6 _ rfl rfl rfl) TG.sl57 TG.sz70 (by omega) (get_map hx) rfl ?_
             exact awl_nil ⟨rfl, post_put⟩⟩⟩
           , ⟨_, rfl, fun sl hd hr ho => by
             first | (refine r_fieldcp (hd 7 _ rfl rfl rfl) TG.f70_0 TG.sz3 rfl ?_) | (refine r_fieldpt (hd 7 _ rfl rfl rfl) TG.f70_0 TG.sz3 rfl ?_) | (refine r_fieldb (hd 7 _ rfl rfl rfl) TG.f70_0 TG.sz3 rfl ?_)
             exact awl_nil ⟨rfl, post_put⟩⟩⟩
           , ⟨_, rfl, fun sl hd hr ho => by
             refine r_load1 (hd 8 _ rfl rfl rfl) TG.agg3 rfl ?_
             exact awl_nil ⟨rfl, post_put⟩⟩⟩
           , ⟨_, rfl, fun sl hd hr ho => by
             refine r_cmp (hd 4 _ rfl rfl rfl) (hd 9 _ rfl rfl rfl) rfl rfl ?_
             exact awl_nil ⟨rfl, post_put⟩⟩⟩
           , ⟨_, rfl, fun sl hd hr ho => by
             refine r_move (hd 10 _ rfl rfl rfl) rfl ?_
             exact awl_nil ⟨rfl, post_put⟩⟩⟩
           , ⟨_, rfl, fun sl hd hr ho => by
             refine g_run rfl (hd 11 _ rfl rfl rfl) (by simp) ?_
             refine r_move (hr 11 _ rfl rfl rfl) rfl ?_
             exact awl_nil ⟨rfl, post_put⟩⟩⟩
           , ⟨_, rfl, fun sl hd hr ho => by
             refine g_run rfl (hd 11 _ rfl rfl rfl) (by simp) ?_
             refine r_move (hr 13 _ rfl rfl rfl) rfl ?_
             exact awl_nil ⟨rfl, post_put⟩⟩⟩
           , ⟨_, rfl, fun sl hd hr ho => by
             refine g_run rfl (hd 11 _ rfl rfl rfl) (by simp) ?_
             refine r_index (hd 12 _ rfl rfl rfl) rfl (hd 13 _ rfl rfl rfl) TG.sl57 TG.sz70 (by omega) (get_map hx) rfl ?_
             exact awl_nil ⟨rfl, post_put⟩⟩⟩
           , ⟨_, rfl, fun sl hd hr ho => by
             refine g_run rfl (hd 11 _ rfl rfl rfl) (by simp) ?_
             first | (refine r_fieldcp (hd 14 _ rfl rfl rfl) TG.f70_1 TG.sz9 rfl ?_) | (refine r_fieldpt (hd 14 _ rfl rfl rfl) TG.f70_1 TG.sz9 rfl ?_) | (refine r_fieldb (hd 14 _ rfl rfl rfl) TG.f70_1 TG.sz9 rfl ?_)
             exact awl_nil ⟨rfl, post_put⟩⟩⟩
           , ⟨_, rfl, fun sl hd hr ho => by
             refine g_run rfl (hd 11 _ rfl rfl rfl) (by simp) ?_
             refine r_load1 (hd 15 _ rfl rfl rfl) TG.agg9 rfl ?_
             exact awl_nil ⟨rfl, post_put⟩⟩⟩
           , ⟨_, rfl, fun sl hd hr ho => by
             refine g_run rfl (hd 11 _ rfl rfl rfl) (by simp) ?_
             refine r_move (hr 12 _ rfl rfl rfl) rfl ?_
             exact awl_nil ⟨rfl, post_put⟩⟩⟩
           , ⟨_, rfl, fun sl hd hr ho => by
             refine g_run rfl (hd 11 _ rfl rfl rfl) (by simp) ?_
             refine r_move (hr 13 _ rfl rfl rfl) rfl ?_
             exact awl_nil ⟨rfl, post_put⟩⟩⟩
           , ⟨_, rfl, fun sl hd hr ho => by
             refine g_run rfl (hd 11 _ rfl rfl rfl) (by simp) ?_
             refine r_index (hd 17 _ rfl rfl rfl) rfl (hd 18 _ rfl rfl rfl) TG.sl57 TG.sz70 (by omega) (get_map hx) rfl ?_
             exact awl_nil ⟨rfl, post_put⟩⟩⟩
           , ⟨_, rfl, fun sl hd hr ho => by
             refine g_run rfl (hd 11 _ rfl rfl rfl) (by simp) ?_
             first | (refine r_fieldcp (hd 19 _ rfl rfl rfl) TG.f70_1 TG.sz9 rfl ?_) | (refine r_fieldpt (hd 19 _ rfl rfl rfl) TG.f70_1 TG.sz9 rfl ?_) | (refine r_fieldb (hd 19 _ rfl rfl rfl) TG.f70_1 TG.sz9 rfl ?_)
             exact awl_nil ⟨rfl, post_put⟩⟩⟩
           , ⟨_, rfl, fun sl hd hr ho => by
             refine g_run rfl (hd 11 _ rfl rfl rfl) (by simp) ?_
             refine r_load1 (hd 20 _ rfl rfl rfl) TG.agg9 rfl ?_
             exact awl_nil ⟨rfl, post_put⟩⟩⟩
           , ⟨_, rfl, fun sl hd hr ho => by
             refine g_run rfl (hd 11 _ rfl rfl rfl) (by simp) ?_
             refine r_str2 (hd 16 _ rfl rfl rfl) (hd 21 _ rfl rfl rfl) rfl rfl ?_
             exact awl_nil ⟨rfl, post_put⟩⟩⟩
           , ⟨_, rfl, fun sl hd hr ho => by
             refine r_pickF (hd 11 _ rfl rfl rfl) (by simp) (hd 22 _ rfl rfl rfl) rfl ?_
             exact awl_nil ⟨rfl, post_put⟩⟩⟩
           , ⟨_, rfl, fun sl hd hr ho => by
             refine r_move (hd 23 _ rfl rfl rfl) rfl ?_
             exact awl_nil ⟨rfl, post_put⟩⟩⟩
           , ⟨_, rfl, fun sl hd hr ho => by
             refine g_run rfl (hd 24 _ rfl rfl rfl) (by simp) ?_
             refine r_move (hr 11 _ rfl rfl rfl) rfl ?_
             exact awl_nil ⟨rfl, post_put⟩⟩⟩
           , ⟨_, rfl, fun sl hd hr ho => by
             refine g_run rfl (hd 24 _ rfl rfl rfl) (by simp) ?_
             refine r_move (hr 13 _ rfl rfl rfl) rfl ?_
             exact awl_nil ⟨rfl, post_put⟩⟩⟩
           , ⟨_, rfl, fun sl hd hr ho => by
             refine g_run rfl (hd 24 _ rfl rfl rfl) (by simp) ?_
             refine r_index (hd 25 _ rfl rfl rfl) rfl (hd 26 _ rfl rfl rfl) TG.sl57 TG.sz70 (by omega) (get_map hx) rfl ?_
             exact awl_nil ⟨rfl, post_put⟩⟩⟩
           , ⟨_, rfl, fun sl hd hr ho => by
             refine g_run rfl (hd 24 _ rfl rfl rfl) (by simp) ?_
             first | (refine r_fieldcp (hd 27 _ rfl rfl rfl) TG.f70_2 TG.sz9 rfl ?_) | (refine r_fieldpt (hd 27 _ rfl rfl rfl) TG.f70_2 TG.sz9 rfl ?_) | (refine r_fieldb (hd 27 _ rfl rfl rfl) TG.f70_2 TG.sz9 rfl ?_)
             exact awl_nil ⟨rfl, post_put⟩⟩⟩
           , ⟨_, rfl, fun sl hd hr ho => by
             refine g_run rfl (hd 24 _ rfl rfl rfl) (by simp) ?_
             refine r_load1 (hd 28 _ rfl rfl rfl) TG.agg9 rfl ?_
             exact awl_nil ⟨rfl, post_put⟩⟩⟩
           , ⟨_, rfl, fun sl hd hr ho => by
             refine g_run rfl (hd 24 _ rfl rfl rfl) (by simp) ?_
             refine r_move (hr 12 _ rfl rfl rfl) rfl ?_
             exact awl_nil ⟨rfl, post_put⟩⟩⟩
           , ⟨_, rfl, fun sl hd hr ho => by
             refine g_run rfl (hd 24 _ rfl rfl rfl) (by simp) ?_
             refine r_move (hr 13 _ rfl rfl rfl) rfl ?_
             exact awl_nil ⟨rfl, post_put⟩⟩⟩
           , ⟨_, rfl, fun sl hd hr ho => by
             refine g_run rfl (hd 24 _ rfl rfl rfl) (by simp) ?_
             refine r_index (hd 30 _ rfl rfl rfl) rfl (hd 31 _ rfl rfl rfl) TG.sl57 TG.sz70 (by omega) (get_map hx) rfl ?_
             exact awl_nil ⟨rfl, post_put⟩⟩⟩
           , ⟨_, rfl, fun sl hd hr ho => by
             refine g_run rfl (hd 24 _ rfl rfl rfl) (by simp) ?_
             first | (refine r_fieldcp (hd 32 _ rfl rfl rfl) TG.f70_2 TG.sz9 rfl ?_) | (refine r_fieldpt (hd 32 _ rfl rfl rfl) TG.f70_2 TG.sz9 rfl ?_) | (refine r_fieldb (hd 32 _ rfl rfl rfl) TG.f70_2 TG.sz9 rfl ?_)
             exact awl_nil ⟨rfl, post_put⟩⟩⟩
           , ⟨_, rfl, fun sl hd hr ho => by
             refine g_run rfl (hd 24 _ rfl rfl rfl) (by simp) ?_
             refine r_load1 (hd 33 _ rfl rfl rfl) TG.agg9 rfl ?_
             exact awl_nil ⟨rfl, post_put⟩⟩⟩
           , ⟨_, rfl, fun sl hd hr ho => by
             refine g_run rfl (hd 24 _ rfl rfl rfl) (by simp) ?_
             refine r_str2 (hd 29 _ rfl rfl rfl) (hd 34 _ rfl rfl rfl) rfl rfl ?_
             exact awl_nil ⟨rfl, post_put⟩⟩⟩
           , ⟨_, rfl, fun sl hd hr ho => by
             refine r_pickF (hd 24 _ rfl rfl rfl) (by simp) (hd 35 _ rfl rfl rfl) rfl ?_
             exact awl_nil ⟨rfl, post_put⟩⟩⟩
           , ⟨_, rfl, fun sl hd hr ho => by
             refine r_move (hd 36 _ rfl rfl rfl) rfl ?_
             exact awl_nil ⟨rfl, post_put⟩⟩⟩
           , ⟨_, rfl, fun sl hd hr ho => by
             refine g_run rfl (hd 37 _ rfl rfl rfl) (by simp) ?_
             refine r_move (hr 11 _ rfl rfl rfl) rfl ?_
             exact awl_nil ⟨rfl, post_put⟩⟩⟩
           , ⟨_, rfl, fun sl hd hr ho => by
             refine g_run rfl (hd 37 _ rfl rfl rfl) (by simp) ?_
             refine r_move (hr 13 _ rfl rfl rfl) rfl ?_
             exact awl_nil ⟨rfl, post_put⟩⟩⟩
           , ⟨_, rfl, fun sl hd hr ho => by
             refine g_run rfl (hd 37 _ rfl rfl rfl) (by simp) ?_
             refine r_index (hd 38 _ rfl rfl rfl) rfl (hd 39 _ rfl rfl rfl) TG.sl57 TG.sz70 (by omega) (get_map hx) rfl ?_
             exact awl_nil ⟨rfl, post_put⟩⟩⟩
           , ⟨_, rfl, fun sl hd hr ho => by
             refine g_run rfl (hd 37 _ rfl rfl rfl) (by simp) ?_
             first | (refine r_fieldcp (hd 40 _ rfl rfl rfl) TG.f70_3 TG.sz22 rfl ?_) | (refine r_fieldpt (hd 40 _ rfl rfl rfl) TG.f70_3 TG.sz22 rfl ?_) | (refine r_fieldb (hd 40 _ rfl rfl rfl) TG.f70_3 TG.sz22 rfl ?_)
             exact awl_nil ⟨rfl, post_put⟩⟩⟩
           , ⟨_, rfl, fun sl hd hr ho => by
             refine g_run rfl (hd 37 _ rfl rfl rfl) (by simp) ?_
             refine r_load1 (hd 41 _ rfl rfl rfl) TG.agg22 rfl ?_
             exact awl_nil ⟨rfl, post_put⟩⟩⟩
           , ⟨_, rfl, fun sl hd hr ho => by
             refine g_run rfl (hd 37 _ rfl rfl rfl) (by simp) ?_
             refine r_convBS x.data (hd 42 _ rfl rfl rfl) rfl TG.sl22 TG.un5 TG.un9 rfl ?_
             exact awl_nil ⟨rfl, post_put⟩⟩⟩
           , ⟨_, rfl, fun sl hd hr ho => by
             refine g_run rfl (hd 37 _ rfl rfl rfl) (by simp) ?_
             refine r_move (hr 12 _ rfl rfl rfl) rfl ?_
             exact awl_nil ⟨rfl, post_put⟩⟩⟩
           , ⟨_, rfl, fun sl hd hr ho => by
             refine g_run rfl (hd 37 _ rfl rfl rfl) (by simp) ?_
             refine r_move (hr 13 _ rfl rfl rfl) rfl ?_
             exact awl_nil ⟨rfl, post_put⟩⟩⟩
           , ⟨_, rfl, fun sl hd hr ho => by
             refine g_run rfl (hd 37 _ rfl rfl rfl) (by simp) ?_
             refine r_index (hd 44 _ rfl rfl rfl) rfl (hd 45 _ rfl rfl rfl) TG.sl57 TG.sz70 (by omega) (get_map hx) rfl ?_
             exact awl_nil ⟨rfl, post_put⟩⟩⟩
           , ⟨_, rfl, fun sl hd hr ho => by
             refine g_run rfl (hd 37 _ rfl rfl rfl) (by simp) ?_
             first | (refine r_fieldcp (hd 46 _ rfl rfl rfl) TG.f70_3 TG.sz22 rfl ?_) | (refine r_fieldpt (hd 46 _ rfl rfl rfl) TG.f70_3 TG.sz22 rfl ?_) | (refine r_fieldb (hd 46 _ rfl rfl rfl) TG.f70_3 TG.sz22 rfl ?_)
             exact awl_nil ⟨rfl, post_put⟩⟩⟩
           , ⟨_, rfl, fun sl hd hr ho => by
             refine g_run rfl (hd 37 _ rfl rfl rfl) (by simp) ?_
             refine r_load1 (hd 47 _ rfl rfl rfl) TG.agg22 rfl ?_
             exact awl_nil ⟨rfl, post_put⟩⟩⟩
           , ⟨_, rfl, fun sl hd hr ho => by
             refine g_run rfl (hd 37 _ rfl rfl rfl) (by simp) ?_
             refine r_convBS x.data (hd 48 _ rfl rfl rfl) rfl TG.sl22 TG.un5 TG.un9 rfl ?_
             exact awl_nil ⟨rfl, post_put⟩⟩⟩
           (by rfl) ?_
          refine g_run rfl rfl (by simp) ?_
          refine r_str2 rfl rfl rfl rfl ?_
          refine r_pickF rfl (by simp) rfl rfl ?_
          refine awl_nil ?_
          refine x_then ?_
          refine awp_cond rfl (fun hc5 => ?_) (fun hc5 => ?_)
          ·
           exfalso; simp at hc5
          ·
           refine awp_skip ?_
           refine x_block ?_
           refine x_then ?_
           refine awp_region ?_
           refine r_ari _ rfl rfl rfl (wrap_id (by first | omega | (simp; omega))) rfl ?_
           refine r_move rfl rfl ?_
           refine awl_nil ?_
           refine x_then ?_
           refine ⟨(OfF a b).length - (k + 1), ⟨152, [(9, .a (files a)), (10, .a (files b)), (11, .a (fcsA (OfF a b))), (12, .a (fcsA (OfF a b))), (64, .a (.v (.int .i64 (((OfF a b).map FC.cs).length)))), (65, .a (.v (.int .i64 (((k + 1) : Int)))))], []⟩, ⟨rfl, (Slots.cons rfl (by first | exact .refl _ | exact .nilOwn _ _ | exact .nilSl _ | exact .ownSl _ _ _  | exact SV.le.of_eq (by simp)) (Slots.cons rfl (by first | exact .refl _ | exact .nilOwn _ _ | exact .nilSl _ | exact .ownSl _ _ _  | exact SV.le.of_eq (by simp)) (Slots.cons rfl (by first | exact .refl _ | exact .nilOwn _ _ | exact .nilSl _ | exact .ownSl _ _ _  | exact SV.le.of_eq (by simp)) (Slots.cons rfl (by first | exact .refl _ | exact .nilOwn _ _ | exact .nilSl _ | exact .ownSl _ _ _  | exact SV.le.of_eq (by simp)) (Slots.cons rfl (by first | exact .refl _ | exact .nilOwn _ _ | exact .nilSl _ | exact .ownSl _ _ _  | exact SV.le.of_eq (by simp)) (Slots.cons rfl (by first | exact .refl _ | exact .nilOwn _ _ | exact .nilSl _ | exact .ownSl _ _ _  | exact SV.le.of_eq (by simp)) Slots.nil)))))), (by first | exact List.Sublist.refl _ | exact .cons_cons _ (.cons _ (.refl _)) | exact List.nil_sublist _ | exact .cons _ (.refl _) | exact .cons _ (.cons _ (.refl _)) | exact .cons _ (.cons _ (.cons _ (.refl _))) | exact .cons _ (.cons _ (.cons _ (.cons _ (.refl _)))) | exact .cons_cons _ (List.nil_sublist _))⟩, (by omega), ⟨k + 1, rfl, rfl, (by omega)⟩⟩
         ·
          have hge : (OfF a b).length ≤ k := by have := of_decide_eq_false hc4; simp at this; omega
          refine awp_exit ?_
          refine x_thenE ?_
          refine x_thenE ?_
          refine x_blockE ?_
          refine x_then ?_
          refine awp_seq ?_
          refine awp_region ?_
          refine r_move rfl rfl ?_
          refine r_move rfl rfl ?_
          refine r_call0 hq rfl rfl (.cons (.ev rfl rfl) (.cons (.ev rfl rfl) .nil)) (applyOf_ok a b hla hlb hna hnb hda hdb) rfl TG.en28 rfl (fun r hr => ?_)
          obtain rfl := hr
          refine r_move rfl rfl ?_
          refine r_extract rfl rfl rfl ?_
          refine r_extract rfl rfl rfl ?_
          refine r_assign rfl rfl ?_
          refine r_assign rfl rfl ?_
          refine awl_nil ?_
          refine x_then ?_
          refine awp_seq ?_
          refine awp_region ?_
          refine r_move rfl rfl ?_
          refine r_callPC hq MG hcs (wo := []) (un := []) rfl rfl (.cons (.ev rfl rfl) .nil) (make_ok (cleanS b) (by omega) (clean_name hnb) (clean_data hdb)) rfl TG.en19 (List.Perm.refl _) (List.nil_sublist _) rfl (fun r nobjs hr => ?_)
          obtain ⟨rfl, hr⟩ := hr
          rcases hr with ⟨hokc, rfl⟩ | ⟨hnoc, e, hne, rfl⟩
          ·
           refine r_move rfl rfl ?_
           refine r_extract rfl rfl rfl ?_
           refine r_extract rfl rfl rfl ?_
           refine r_assign rfl rfl ?_
           refine r_assign rfl rfl ?_
           refine awl_nil ?_
           refine x_then ?_
           refine awp_seq ?_
           refine awp_region ?_
           refine r_move rfl rfl ?_
           refine r_cmp rfl rfl rfl rfl ?_
           refine r_move rfl rfl ?_
           refine g_run rfl rfl rfl ?_
           refine r_move rfl rfl ?_
           refine g_run rfl rfl rfl ?_
           refine r_cmp rfl rfl rfl rfl ?_
           refine r_pickT rfl rfl rfl rfl ?_
           refine r_move rfl rfl ?_
           refine g_run rfl rfl rfl ?_
           refine r_move rfl rfl ?_
           refine g_run rfl rfl rfl ?_
           refine r_callPC hq MG hcs (wo := []) (un := []) rfl rfl (.cons (.ev rfl rfl) .nil) (read_ok (cleanS b) hokc) rfl TG.en27 (List.Perm.refl _) (List.nil_sublist _) rfl (fun r nobjs hr => ?_)
           obtain ⟨rfl, rfl⟩ := hr
           refine g_run rfl rfl rfl ?_
           refine r_move rfl rfl ?_
           refine g_run rfl rfl rfl ?_
           refine r_call0 hq rfl rfl (.cons (.ev rfl rfl) (.cons (.ev rfl rfl) .nil)) (fsame_ok (cleanS b) (by omega)) rfl TG.en17 rfl (fun r hr => ?_)
           obtain rfl := hr
           refine r_pickT rfl rfl rfl rfl ?_
           refine r_move rfl rfl ?_
           refine g_run rfl rfl rfl ?_
           refine r_move rfl rfl ?_
           refine g_run rfl rfl rfl ?_
           refine r_move rfl rfl ?_
           refine g_run rfl rfl rfl ?_
           refine r_call0 hq rfl rfl (.cons (.ev rfl rfl) .nil) (plain_ok b (by omega)) rfl TG.en31 rfl (fun r hr => ?_)
           obtain rfl := hr
           refine g_run rfl rfl rfl ?_
           refine r_call0 hq rfl rfl (.cons (.ev rfl rfl) .nil) (rclean_ok b hlb) rfl TG.en30 rfl (fun r hr => ?_)
           obtain rfl := hr
           refine g_run rfl rfl rfl ?_
           refine r_call0 hq rfl rfl (.cons (.ev rfl rfl) (.cons (.ev rfl rfl) .nil)) (alike_ok (cleanS b) (by omega)) rfl TG.en29 rfl (fun r hr => ?_)
           obtain rfl := hr
           refine g_run rfl rfl rfl ?_
           refine r_cmp rfl rfl rfl rfl ?_
           refine r_pickT rfl rfl rfl rfl ?_
           refine r_assign rfl rfl ?_
           refine awl_nil ?_
           refine x_then ?_
           refine awp_ret ?_
           exact ⟨(.inl rfl), _, [], (.one (by first | exact .mk rfl rfl | exact .nil rfl)), ⟨rfl, rfl⟩, (List.nil_sublist _), (by simp)⟩
          ·
           exact absurd (okFs_clean hokb) (by rw [hnoc]; decide)
      ·
       refine r_move rfl rfl ?_
       refine r_extract rfl rfl rfl ?_
       refine r_extract rfl rfl rfl ?_
       refine r_assign rfl rfl ?_
       refine r_assign rfl rfl ?_
       refine awl_nil ?_
       refine x_then ?_
       refine awp_seq ?_
       refine awp_seq ?_
       refine awp_region ?_
       refine r_move rfl rfl ?_
       refine r_cmp rfl rfl rfl rfl ?_
       refine r_move rfl rfl ?_
       refine g_run rfl rfl rfl ?_
       refine r_move rfl rfl ?_
       refine g_run rfl rfl rfl ?_
       refine r_cmp rfl rfl rfl rfl ?_
       refine r_pickF rfl rfl rfl rfl ?_
       refine awl_nil ?_
       refine x_then ?_
       refine awp_cond rfl (fun hc2 => ?_) (fun hc2 => ?_)
       ·
        refine awp_seq ?_
        refine awp_region ?_
        refine r_assign rfl rfl ?_
        refine awl_nil ?_
        refine x_then ?_
        refine awp_ret ?_
        refine x_thenR ?_
        exact ⟨(.inl rfl), _, [], (.one (by first | exact .mk rfl rfl | exact .nil rfl)), ⟨rfl, rfl⟩, (List.nil_sublist _), (by simp)⟩
       ·
        exfalso; simp at hc2; exact hne2 hc2
     ·
      refine r_move rfl rfl ?_
      refine r_extract rfl rfl rfl ?_
      refine r_extract rfl rfl rfl ?_
      refine r_assign rfl rfl ?_
      refine r_assign rfl rfl ?_
      refine awl_nil ?_
      refine x_then ?_
      refine awp_seq ?_
      refine awp_region ?_
      refine r_move rfl rfl ?_
      refine r_call0 hq rfl rfl (.cons (.ev rfl rfl) .nil) (files_ok b (by omega) hdb) rfl TG.en23 rfl (fun r hr => ?_)
      obtain rfl := hr
      refine r_callPC hq MG hcs (wo := []) (un := []) rfl rfl (.cons (.ev rfl rfl) .nil) (make_ok b (by omega) hnb hdb) rfl TG.en19 (List.Perm.refl _) (List.nil_sublist _) rfl (fun r nobjs hr => ?_)
      obtain ⟨rfl, hr⟩ := hr
      rcases hr with ⟨hokb, rfl⟩ | ⟨hnob, e2, hne2, rfl⟩
      ·
       refine r_move rfl rfl ?_
       refine r_extract rfl rfl rfl ?_
       refine r_extract rfl rfl rfl ?_
       refine r_assign rfl rfl ?_
       refine r_assign rfl rfl ?_
       refine awl_nil ?_
       refine x_then ?_
       refine awp_seq ?_
       refine awp_seq ?_
       refine awp_region ?_
       refine r_move rfl rfl ?_
       refine r_cmp rfl rfl rfl rfl ?_
       refine r_move rfl rfl ?_
       refine g_skip rfl rfl (by simpa using hne) rfl ?_
       refine g_skip rfl rfl (by simpa using hne) rfl ?_
       refine r_pickT rfl (by simpa using hne) rfl rfl ?_
       refine awl_nil ?_
       refine x_then ?_
       refine awp_condT rfl ?_
       refine awp_seq ?_
       refine awp_region ?_
       refine r_assign rfl rfl ?_
       refine awl_nil ?_
       refine x_then ?_
       refine awp_ret ?_
       refine x_thenR ?_
       exact ⟨(.inl rfl), _, [], (.one (by first | exact .mk rfl rfl | exact .nil rfl)), ⟨rfl, rfl⟩, (List.nil_sublist _), (by simp)⟩
      ·
       refine r_move rfl rfl ?_
       refine r_extract rfl rfl rfl ?_
       refine r_extract rfl rfl rfl ?_
       refine r_assign rfl rfl ?_
       refine r_assign rfl rfl ?_
       refine awl_nil ?_
       refine x_then ?_
       refine awp_seq ?_
       refine awp_seq ?_
       refine awp_region ?_
       refine r_move rfl rfl ?_
       refine r_cmp rfl rfl rfl rfl ?_
       refine r_move rfl rfl ?_
       refine g_skip rfl rfl (by simpa using hne) rfl ?_
       refine g_skip rfl rfl (by simpa using hne) rfl ?_
       refine r_pickT rfl (by simpa using hne) rfl rfl ?_
       refine awl_nil ?_
       refine x_then ?_
       refine awp_condT rfl ?_
       refine awp_seq ?_
       refine awp_region ?_
       refine r_assign rfl rfl ?_
       refine awl_nil ?_
       refine x_then ?_
       refine awp_ret ?_
       refine x_thenR ?_
       exact ⟨(.inl rfl), _, [], (.one (by first | exact .mk rfl rfl | exact .nil rfl)), ⟨rfl, rfl⟩, (List.nil_sublist _), (by simp)⟩
end Go.Proofs.YtcbhhjahjnlfhaaDoor.A
namespace Go.Proofs.YtcbhhjahjnlfhaaDoor.A
open Go Go.RowKit
set_option linter.unusedVariables false
set_option linter.unusedSimpArgs false
set_option maxRecDepth 100000
theorem TG.f71_0 : fieldT Tryd.prog 71 0 = some (0, 9) := by kernel_rfl
theorem TG.f71_1 : fieldT Tryd.prog 71 1 = some (1, 22) := by kernel_rfl
theorem rd_bts : RD Tryd.prog 22 (fun l : List UInt8 => [bts l]) (fun _ => True) := RD.map (rd_slice TG.sl22 TG.sz5 (rd_u8 TG.un5) (fun _ => rfl)) id (fun a _ => ⟨trivial, rfl⟩)
theorem rd_file : RD Tryd.prog 71 File.cs (fun _ => True) := RD.map (rd_struct2 TG.f71_0 TG.f71_1 TG.sz71 TG.sz9 TG.sz22 (rd_str TG.un9) rd_bts) (fun a => (⟨a.1, a.2⟩ : File)) (fun a _ => ⟨trivial, rfl⟩)
theorem rd_files : RD Tryd.prog 65 (fun l : List File => [files l]) (fun _ => True) := RD.map (rd_slice TG.sl65 TG.sz71 rd_file (fun _ => rfl)) id (fun a _ => ⟨trivial, rfl⟩)
theorem mg_C0 {W : World} (h : ∀ (k : Nat) (x : UInt8), magicL[k]? = some x → W.cell? ⟨0, k, none⟩ = some (.int .u8 x.toNat)) : ∀ b o v, MG b o = some v → C0 W b o = some v := by
  intro b o v hv
  unfold MG at hv
  split at hv
  · rename_i hb
    subst hb
    cases hm : magicL[o]? with
    | none =>
      have : ([69, 82, 69, 87, 1] : List UInt8)[o]? = none := hm
      rw [this] at hv; cases hv
    | some x =>
      have : ([69, 82, 69, 87, 1] : List UInt8)[o]? = some x := hm
      rw [this] at hv
      cases hv
      exact C0_some (h o x hm) rfl (fun _ => rfl)
  · cases hv
theorem awc_row {f : FuncId} {args : List AV} {R : AV → List OE → Prop} {W : World} (h : AWC MG Tryd.prog f args [] [] R) (hM : ∀ b o v, MG b o = some v → C0 W b o = some v) (vals : Array Value) (h1 : Com (C0 W) W) (h2 : Rels (C0 W) args vals.toList) (h3 : Objs (C0 W) [] W) :
    Calls Tryd.prog f vals W (fun e w' => ∃ v C' r nobjs, e = .returned v ∧ R r nobjs ∧ Below W.heap.size W w' ∧ (∀ b o, b < W.heap.size → C' b o = C0 W b o) ∧ Com C' w' ∧ Rel C' r v ∧ Objs C' nobjs w' ∧ ∀ e ∈ nobjs, W.heap.size ≤ e.b) := by
  refine (h (C0 W) W vals hM h1 h2 (by simpa using h3)).mono ?_
  rintro e w' ⟨v, C', r, nobjs, rfl, hR, hb, hC, hcom, hrel, hn, hnb⟩
  exact ⟨v, C', r, nobjs, rfl, hR, ⟨hb.os, hb.tape, hb.output, hb.size, fun k hk => hb.block k hk wb_nil⟩, fun b o hb' => hC b o hb' wb_nil, hcom, hrel, hn, fun e he => (hnb e he).resolve_right wb_nil⟩
end Go.Proofs.YtcbhhjahjnlfhaaDoor.A
namespace Go.Proofs.YtcbhhjahjnlfhaaDoor
open Go Go.ChangeShapes Go.WideShapes Go.ChangeAt Go.WideMaps Go.WideElems Go.RowKit
theorem gMagic : Tryd.prog.globalNamed "erewhile/fs.magic" = some 0 := by kernel_rfl
theorem tMagic : (Tryd.prog.globals[0]?).map (·.type) = some 83 := by kernel_rfl
def laid1 : List (String × DataW Unit) := [("erewhile/fs.magic", Rows.laid_erewhile_fs_magic)]
set_option maxRecDepth 100000
theorem door_met (os : Os) (args : Array Value) : laidMetH Tryd.prog laid1 ((World.doorLaid Tryd.prog 400 os).forCall (fun _ _ => 0) ⟨#[], args, []⟩).memory :=
  laidMetH_of_parts3 (fuel := 8) (laidMet_of_run' 8 (by kernel_rfl) (by kernel_rfl)) (by kernel_rfl) (by kernel_rfl)
theorem of_laid {W : World} (h : laidMetH Tryd.prog laid1 W) (k : Nat) (x : UInt8) (hk : A.magicL[k]? = some x) : W.cell? ⟨0, k, none⟩ = some (.int .u8 x.toNat) := by
  rw [MakeChecks.laidMetH_plain _ _ _ (by kernel_rfl)] at h
  obtain ⟨ps, ⟨g0, t0, cs0, f0, p0, q0, hg0, ht0, hv0, hd0, _, _⟩, _, _⟩ := h
  obtain rfl := Option.some.inj (gMagic.symm.trans hg0)
  obtain rfl := Option.some.inj (tMagic.symm.trans ht0)
  obtain ⟨xs, m1, rfl, hx1, hlen, hn3, hel⟩ := DataW.trod_array Tryd.underlying83 hd0
  have c5 : Tryd.prog.cellsOf 5 = 1 := by kernel_rfl
  have hk5 : k < 5 := (List.getElem?_eq_some_iff.1 hk).1
  have h0 := hel k hk5
  rw [c5] at h0
  have hkx : k < xs.length := by omega
  rw [List.getElem?_eq_getElem hkx] at h0
  obtain ⟨n, e1, e2, _⟩ := DataW.trod_int Tryd.underlying5 h0
  have hx2 := (Prod.mk.inj hx1).1
  unfold Rows.laid_erewhile_fs_magic at hx2
  have hx3 := DataW.agg.inj hx2
  have hx4 : (xs.map (·.1))[k]? = some (.lit (.int .u8 n)) := by rw [List.getElem?_map, List.getElem?_eq_getElem hkx, e2]; rfl
  rw [← hx3] at hx4
  have hn : n = (x.toNat : Int) := by
    have h9 : ([69, 82, 69, 87, 1] : List UInt8)[k]? = some x := hk
    match k, hk5, h9, hx4 with
    | 0, _, h9, hx4 => cases h9; cases hx4; rfl
    | 1, _, h9, hx4 => cases h9; cases hx4; rfl
    | 2, _, h9, hx4 => cases h9; cases hx4; rfl
    | 3, _, h9, hx4 => cases h9; cases hx4; rfl
    | 4, _, h9, hx4 => cases h9; cases hx4; rfl
  have hc := World.var?_cell hg0 hv0 k
  rw [hc, ← hn]
  rw [Nat.mul_one] at e1
  have h8 := congrArg (·[0]?) e1
  simp only [List.getElem?_take, List.getElem?_drop, List.getElem?_cons_zero] at h8
  simpa using h8
end Go.Proofs.YtcbhhjahjnlfhaaDoor

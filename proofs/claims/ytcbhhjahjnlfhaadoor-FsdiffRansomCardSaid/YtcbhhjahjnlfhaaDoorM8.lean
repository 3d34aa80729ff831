import Derived.WalkKit
import Derived.Below
import Derived.Laws.Rows
import Derived.Laws.CopyRow
import Derived.Laws.AppendOwn
import Derived.RangeFuncLeaves
import Derived.RangeFuncSeq
import Derived.RangeFuncCalls
import Derived.MapKept
import Derived.Orders
import Derived.Laws.IdiomStrings
import Derived.Laws.BytesArg
import Derived.Shelf.SlIter.Nil
import Derived.Shelf.SortM.Plain
import Derived.Shelf.SortM.SortNone
import Derived.Ground.GgzProg
import Derived.Ground.SlgmProg
import Derived.Test.YtcbhhjahjnlfhaaDoorProg
import Derived.KernelRfl
import Derived.RangeFuncBound
import Derived.Maps.RangeRun
import Derived.DeepKeys3
import Derived.Laws.StructEq
import Derived.Shelf.SlSortCmp.NoneTotal
import Derived.ChangeKeysEq
import Derived.Laws.MakeOwn
import Derived.ChangeArms
import Derived.ChangeOld
import Derived.Laws.DeepStrings4
import Derived.OpenShut
import Derived.OrdersIn
import Derived.Lib.AppendZeros
import Derived.Lib.AppendZerosOnto
import Derived.Lib.Overlaps
import Derived.Deep.AppendSrc
import Derived.Lib.BytesEntry
import Derived.Laws.Concat
import Derived.Laws.Strings3
import Derived.Test.YtcbhhjahjnlfhaaDoorRows
import Derived.ProofKit
import Derived.LaidMore
import Derived.Stop.Joined
import Derived.Test.YtcbhhjahjnlfhaaDoorM7
namespace Go.Proofs.YtcbhhjahjnlfhaaDoor.A
open Go Go.RowKit
set_option linter.unusedVariables false
set_option linter.unusedSimpArgs false
set_option maxRecDepth 100000
theorem TG.en10 : entersT Tryd.prog 10 := enters_of Tryd.func10 (by kernel_rfl) (by kernel_rfl)
theorem TG.en24 : entersT Tryd.prog 24 := enters_of Tryd.func24 (by kernel_rfl) (by kernel_rfl)
theorem TG.en25 : entersT Tryd.prog 25 := enters_of Tryd.func25 (by kernel_rfl) (by kernel_rfl)
theorem TG.en22 : entersT Tryd.prog 22 := enters_of Tryd.func22 (by kernel_rfl) (by kernel_rfl)
theorem TG.agg70 : aggT Tryd.prog 70 = some true := by kernel_rfl
theorem TG.zero70 : ZeroT Tryd.prog 70 [.v (.int .i64 0), .v (.string ⟨#[]⟩), .v (.string ⟨#[]⟩), .sl 1 []] := ⟨[(.int .i64 0), (.string ⟨#[]⟩), (.string ⟨#[]⟩), (.slice none 0 0)], by kernel_rfl, (.cons (.refl _) (.cons (.refl _) (.cons (.refl _) (.cons (.nil 1) .nil))))⟩
theorem TG.en26 : entersT Tryd.prog 26 := enters_of Tryd.func26 (by kernel_rfl) (by kernel_rfl)
theorem neq_data {a b : List UInt8} : (!decide ((⟨a.toArray⟩ : ByteArray) = ⟨b.toArray⟩)) = !decide (a = b) := by rw [ba_mk]
theorem ren_fc {l : List File} {k : Nat} {x : FC} (h : ((namesF l).map (renS sfx))[k]? = some x) : ∃ s, s ∈ namesF l ∧ x = renS sfx s := by
  rw [List.getElem?_map] at h
  obtain ⟨s, hs, rfl⟩ := Option.map_eq_some_iff.1 h
  exact ⟨s, List.mem_of_getElem? hs, rfl⟩
theorem name_small {l : List File} (hn : ∀ f ∈ l, f.name.size ≤ 1000000) {s : ByteArray} (h : s ∈ namesF l) : s.size ≤ 1000000 := by
  obtain ⟨f, hf, rfl⟩ := name_file h
  exact hn f hf
set_option maxHeartbeats 4000000 in
theorem ransom_law (l : List File) (key : UInt8) : AWC MG Tryd.prog 4 [files l, .v (.int .u8 key.toNat)] [] [] (fun r n => n = [] ∧ r = boolA true) := by
 refine awc_of_awpG MG (so := []) (nt := 182) (fun S r => Result1 S [4] r) Tryd.func4 rfl rfl rfl rfl (result1_run rfl) (fun w0 C0 hq hcs => ?_)
 refine awp_seq ?_
 refine awp_region ?_
 refine r_assign rfl rfl ?_
 refine awl_nil ?_
 refine x_then ?_
 refine awp_seq ?_
 refine awp_seq ?_
 refine awp_region ?_
 refine r_call0 hq rfl rfl .nil (awake_ok) rfl TG.en20 rfl (fun r hr => ?_)
 obtain rfl := hr
 refine r_not rfl rfl ?_
 refine awl_nil ?_
 refine x_then ?_
 refine awp_cond rfl (fun hc0 => ?_) (fun hc0 => ?_)
 ·
  exfalso; exact absurd hc0 (by decide)
 ·
  refine awp_skip ?_
  refine x_then ?_
  refine awp_seq ?_
  refine awp_seq ?_
  refine awp_region ?_
  refine r_move rfl rfl ?_
  refine r_call0 hq rfl rfl (.cons (.ev rfl rfl) .nil) (small_ok l) rfl TG.en21 rfl (fun r hr => ?_)
  rcases hr with rfl | ⟨rfl, h12l, hsl⟩
  ·
   refine r_cmp rfl rfl rfl rfl ?_
   refine r_move rfl rfl ?_
   refine g_skip rfl rfl rfl rfl ?_
   refine g_skip rfl rfl rfl rfl ?_
   refine g_skip rfl rfl rfl rfl ?_
   refine r_pickT rfl rfl rfl rfl ?_
   refine awl_nil ?_
   refine x_then ?_
   refine awp_condT rfl ?_
   refine awp_seq ?_
   refine awp_region ?_
   refine r_assign rfl rfl ?_
   refine awl_nil ?_
   refine x_then ?_
   refine awp_ret ?_
   refine x_thenR ?_
   exact ⟨(.inl rfl), _, [], (.one (by first | exact .mk rfl rfl | exact .nil rfl)), ⟨rfl, by first | rfl | (simp [boolA, SV.av]; done)⟩, (List.nil_sublist _), (by simp)⟩
  ·
   have hll : l.length ≤ 1000 := by omega
   have hnl : ∀ f ∈ l, f.name.size ≤ 1000000 := fun f hf => by have := (hsl f hf).1; omega
   have hdl : ∀ f ∈ l, f.data.length ≤ 1000000 := fun f hf => by have := (hsl f hf).2; omega
   refine r_cmp rfl rfl rfl rfl ?_
   refine r_move rfl rfl ?_
   refine g_run rfl rfl rfl ?_
   refine r_move rfl rfl ?_
   refine g_run rfl rfl rfl ?_
   refine r_call0 hq rfl rfl (.cons (.ev rfl rfl) .nil) (check49_ok l (by omega) hnl) rfl TG.en22 rfl (fun r hr => ?_)
   obtain ⟨e, rfl, hce⟩ := hr
   refine g_run rfl rfl rfl ?_
   refine r_cmp rfl rfl rfl rfl ?_
   refine r_pickF rfl rfl rfl rfl ?_
   refine awl_nil ?_
   refine x_then ?_
   refine awp_cond rfl (fun hc1 => ?_) (fun hc1 => ?_)
   ·
    refine awp_seq ?_
    refine awp_region ?_
    refine r_assign rfl rfl ?_
    refine awl_nil ?_
    refine x_then ?_
    refine awp_ret ?_
    refine x_thenR ?_
    exact ⟨(.inl rfl), _, [], (.one (by first | exact .mk rfl rfl | exact .nil rfl)), ⟨rfl, by first | rfl | (simp [boolA, SV.av]; done)⟩, (List.nil_sublist _), (by simp)⟩
   ·
    have hok : okFs l = true := hce.1 (by simpa using hc1)
    obtain ⟨h8, hrt, hnd⟩ := okFs_un hok
    have hokK := okFs_lockE hok key
    have hkl : (l.map (lkG key)).length = l.length := List.length_map ..
    obtain ⟨hkn, hkd⟩ := okFs_bnd hokK
    have hkN : ∀ f ∈ (l.map (lkG key)), f.name.size ≤ 1000000 := fun f hf => Nat.le_trans (hkn f hf) (by decide)
    have hkD : ∀ f ∈ (l.map (lkG key)), f.data.length ≤ 1000000 := fun f hf => Nat.le_trans (hkd f hf) (by decide)
    have hml := manyC_le key l
    refine awp_skip ?_
    refine x_then ?_
    refine awp_seq ?_
    refine awp_region ?_
    refine r_move rfl rfl ?_
    refine r_call0 hq rfl rfl (.cons (.ev rfl rfl) .nil) (files_ok l (by omega) hdl) rfl TG.en23 rfl (fun r hr => ?_)
    obtain rfl := hr
    refine r_assign rfl rfl ?_
    refine awl_nil ?_
    refine x_then ?_
    refine awp_seq ?_
    refine awp_region ?_
    refine r_move rfl rfl ?_
    refine r_move rfl rfl ?_
    refine r_callPC hq MG hcs (wo := []) (un := []) rfl rfl (.cons (.ev rfl rfl) (.cons (.ev rfl rfl) (.cons (.ev rfl rfl) (.cons (.ev rfl rfl) .nil)))) (ransom_ok l hok key 0) rfl TG.en10 (List.Perm.refl _) (List.nil_sublist _) rfl (fun r nobjs hr => ?_)
    obtain ⟨h0, -, -⟩ | ⟨g3, cap3, rfl, rfl⟩ := hr
    · exact absurd (List.append_eq_nil_iff.1 (List.map_eq_nil_iff.1 h0)).1 (rows_ne (disk_ne _))
    refine awl_imp (imp_commitB 0 32 rfl rfl rfl) ?_
    refine r_callPC hq MG hcs (wo := []) (un := []) rfl rfl (.cons (.ev rfl rfl) .nil) (left_ok (rowsF (diskF l) ++ evsF (evR key 0 l) l.length) (evs_ds_len hok (evR_len key 0 l)) (ransom_ws key 0) (l.map (lkG key)) hokK (ransom_left hok key 0)) rfl TG.en24 (List.Perm.refl _) (List.nil_sublist _) rfl (fun r nobjs hr => ?_)
    obtain ⟨rfl, rfl⟩ := hr
    refine r_assign rfl rfl ?_
    refine awl_nil ?_
    refine x_then ?_
    refine awp_seq ?_
    refine awp_region ?_
    refine r_assign rfl rfl ?_
    refine awl_nil ?_
    refine x_then ?_
    refine awp_seq ?_
    refine awp_seq ?_
    refine awp_region ?_
    refine r_move rfl rfl ?_
    refine r_move rfl rfl ?_
    refine r_call0 hq rfl rfl (.cons (.ev rfl rfl) (.cons (.ev rfl rfl) .nil)) (of_ok l (l.map (lkG key)) (by omega) (by omega) hnl hkN hdl hkD) rfl TG.en18 rfl (fun r hr => ?_)
    obtain rfl := hr
    have hoL := lock_len key hnd
    refine r_lenS rfl rfl TG.sl57 rfl ?_
    refine r_move rfl rfl ?_
    refine awl_nil ?_
    refine x_then ?_
    refine awp_block ?_
    refine awp_loop (fun nn0 S => ∃ k : Nat, S = ⟨182, [(0, .a (files l)), (1, .a (.v (.int .u8 (key.toNat)))), (5, .a (files l)), (6, .a (files (l.map (lkG key)))), (7, .a (.v (.int .i64 ((k : Int))))), (36, .a (fcsA (OfF l (l.map (lkG key))))), (37, .a (.v (.int .i64 (((OfF l (l.map (lkG key))).map FC.cs).length)))), (38, .a (.v (.int .i64 ((k : Int)))))], []⟩ ∧ nn0 = (OfF l (l.map (lkG key))).length - k ∧ (k ≤ (OfF l (l.map (lkG key))).length)) ((OfF l (l.map (lkG key))).length - (0)) ⟨182, [(0, .a (files l)), (1, .a (.v (.int .u8 (key.toNat)))), (5, .a (files l)), (6, .a (files (l.map (lkG key)))), (7, .a (.v (.int .i64 (((0) : Int))))), (36, .a (fcsA (OfF l (l.map (lkG key))))), (37, .a (.v (.int .i64 (((OfF l (l.map (lkG key))).map FC.cs).length)))), (38, .a (.v (.int .i64 (((0) : Int)))))], []⟩ ⟨rfl, (Slots.cons rfl (by first | exact .refl _ | exact .nilOwn _ _ | exact .nilSl _ | exact .ownSl _ _ _  | exact SV.le.of_eq (by simp)) (Slots.cons rfl (by first | exact .refl _ | exact .nilOwn _ _ | exact .nilSl _ | exact .ownSl _ _ _  | exact SV.le.of_eq (by simp)) (Slots.cons rfl (by first | exact .refl _ | exact .nilOwn _ _ | exact .nilSl _ | exact .ownSl _ _ _  | exact SV.le.of_eq (by simp)) (Slots.cons rfl (by first | exact .refl _ | exact .nilOwn _ _ | exact .nilSl _ | exact .ownSl _ _ _  | exact SV.le.of_eq (by simp)) (Slots.cons rfl (by first | exact .refl _ | exact .nilOwn _ _ | exact .nilSl _ | exact .ownSl _ _ _  | exact SV.le.of_eq (by simp)) (Slots.cons rfl (by first | exact .refl _ | exact .nilOwn _ _ | exact .nilSl _ | exact .ownSl _ _ _  | exact SV.le.of_eq (by simp)) (Slots.cons rfl (by first | exact .refl _ | exact .nilOwn _ _ | exact .nilSl _ | exact .ownSl _ _ _  | exact SV.le.of_eq (by simp)) (Slots.cons rfl (by first | exact .refl _ | exact .nilOwn _ _ | exact .nilSl _ | exact .ownSl _ _ _  | exact SV.le.of_eq (by simp)) Slots.nil)))))))), (by first | exact List.Sublist.refl _ | exact .cons_cons _ (.cons _ (.refl _)) | exact List.nil_sublist _ | exact .cons _ (.refl _) | exact .cons _ (.cons _ (.refl _)) | exact .cons _ (.cons _ (.cons _ (.refl _))) | exact .cons _ (.cons _ (.cons _ (.cons _ (.refl _)))) | exact .cons_cons _ (List.nil_sublist _))⟩ ⟨0, rfl, rfl, Nat.zero_le _⟩ ?_
    rintro nn0 _ ⟨k, rfl, rfl, hk⟩
    refine awp_seq ?_
    refine awp_region ?_
    refine r_cmp rfl rfl rfl rfl ?_
    refine awl_nil ?_
    refine x_then ?_
    refine awp_seq ?_
    refine awp_cond rfl (fun hc2 => ?_) (fun hc2 => ?_)
    ·
     have hltx : k < (OfF l (l.map (lkG key))).length := by have := of_decide_eq_true hc2; simpa using this
     obtain ⟨x, hx⟩ := get_lt hltx
     have hk3 := lock_kind (List.mem_of_getElem? hx)
     refine awp_skip ?_
     refine x_then ?_
     refine awp_seq ?_
     refine awp_block ?_
     refine awp_seq ?_
     refine awp_region ?_
     refine r_index rfl rfl rfl TG.sl57 TG.sz70 (by omega) (get_map hx) rfl ?_
     refine r_loadA rfl TG.agg70 TG.sz70 rfl rfl ?_
     refine r_alloc TG.zero70 rfl (fun b9 => ?_)
     refine r_store 0 rfl rfl rfl TG.sz70 rfl rfl rfl ?_
     refine awl_nil ?_
     refine x_then ?_
     refine awp_seq ?_
     refine awp_seq ?_
     refine awp_region ?_
     refine r_fieldb rfl TG.f70_0 TG.sz3 rfl ?_
     refine r_load1b 0 rfl rfl rfl TG.agg3 rfl ?_
     refine r_cmp rfl rfl rfl rfl ?_
     refine awl_nil ?_
     refine x_then ?_
     refine awp_cond rfl (fun hc3 => ?_) (fun hc3 => ?_)
     ·
      exfalso; rw [hk3] at hc3; exact absurd hc3 (by decide)
     ·
      refine awp_skip ?_
      refine x_then ?_
      refine awp_region ?_
      refine r_move rfl rfl ?_
      refine r_ari _ rfl rfl rfl (wrap_id (by first | omega | (simp; omega))) rfl ?_
      refine r_assign rfl rfl ?_
      refine awl_nil ?_
      refine x_block ?_
      refine x_then ?_
      refine awp_region ?_
      refine r_ari _ rfl rfl rfl (wrap_id (by first | omega | (simp; omega))) rfl ?_
      refine r_move rfl rfl ?_
      refine awl_nil ?_
      refine x_then ?_
      refine ⟨(OfF l (l.map (lkG key))).length - (k + 1), ⟨182, [(0, .a (files l)), (1, .a (.v (.int .u8 (key.toNat)))), (5, .a (files l)), (6, .a (files (l.map (lkG key)))), (7, .a (.v (.int .i64 (((k + 1) : Int))))), (36, .a (fcsA (OfF l (l.map (lkG key))))), (37, .a (.v (.int .i64 (((OfF l (l.map (lkG key))).map FC.cs).length)))), (38, .a (.v (.int .i64 (((k + 1) : Int)))))], []⟩, ⟨rfl, (Slots.cons rfl (by first | exact .refl _ | exact .nilOwn _ _ | exact .nilSl _ | exact .ownSl _ _ _  | exact SV.le.of_eq (by simp)) (Slots.cons rfl (by first | exact .refl _ | exact .nilOwn _ _ | exact .nilSl _ | exact .ownSl _ _ _  | exact SV.le.of_eq (by simp)) (Slots.cons rfl (by first | exact .refl _ | exact .nilOwn _ _ | exact .nilSl _ | exact .ownSl _ _ _  | exact SV.le.of_eq (by simp)) (Slots.cons rfl (by first | exact .refl _ | exact .nilOwn _ _ | exact .nilSl _ | exact .ownSl _ _ _  | exact SV.le.of_eq (by simp)) (Slots.cons rfl (by first | exact .refl _ | exact .nilOwn _ _ | exact .nilSl _ | exact .ownSl _ _ _  | exact SV.le.of_eq (by simp)) (Slots.cons rfl (by first | exact .refl _ | exact .nilOwn _ _ | exact .nilSl _ | exact .ownSl _ _ _  | exact SV.le.of_eq (by simp)) (Slots.cons rfl (by first | exact .refl _ | exact .nilOwn _ _ | exact .nilSl _ | exact .ownSl _ _ _  | exact SV.le.of_eq (by simp)) (Slots.cons rfl (by first | exact .refl _ | exact .nilOwn _ _ | exact .nilSl _ | exact .ownSl _ _ _  | exact SV.le.of_eq (by simp)) Slots.nil)))))))), (by first | exact List.Sublist.refl _ | exact .cons_cons _ (.cons _ (.refl _)) | exact List.nil_sublist _ | exact .cons _ (.refl _) | exact .cons _ (.cons _ (.refl _)) | exact .cons _ (.cons _ (.cons _ (.refl _))) | exact .cons _ (.cons _ (.cons _ (.cons _ (.refl _)))) | exact .cons_cons _ (List.nil_sublist _))⟩, (by omega), ⟨k + 1, rfl, rfl, (by omega)⟩⟩
    ·
     have hge : (OfF l (l.map (lkG key))).length ≤ k := by have := of_decide_eq_false hc2; simp at this; omega
     obtain rfl : k = manyC key l := by omega
     refine awp_exit ?_
     refine x_thenE ?_
     refine x_thenE ?_
     refine x_blockE ?_
     refine x_then ?_
     refine awp_seq ?_
     refine awp_region ?_
     refine r_assign rfl rfl ?_
     refine awl_nil ?_
     refine x_then ?_
     refine awp_seq ?_
     refine awp_seq ?_
     refine awp_region ?_
     refine r_move rfl rfl ?_
     refine r_lenS rfl rfl TG.sl65 rfl ?_
     refine r_move rfl rfl ?_
     refine awl_nil ?_
     refine x_then ?_
     refine awp_block ?_
     refine awp_loop (fun nn0 S => ∃ k : Nat, S = ⟨182, [(0, .a (files l)), (1, .a (.v (.int .u8 (key.toNat)))), (5, .a (files l)), (6, .a (files (l.map (lkG key)))), (7, .a (.v (.int .i64 (((manyC key l : Nat) : Int))))), (10, .a (.v (.int .i64 ((((l.take k).countP fun f => !decide (f.data = lockF f.data key) : Nat) : Int))))), (49, .a (.v (.int .i64 ((l.map File.cs).length)))), (50, .a (.v (.int .i64 ((k : Int)))))], []⟩ ∧ nn0 = l.length - k ∧ (k ≤ l.length)) (l.length - (0)) ⟨182, [(0, .a (files l)), (1, .a (.v (.int .u8 (key.toNat)))), (5, .a (files l)), (6, .a (files (l.map (lkG key)))), (7, .a (.v (.int .i64 (((manyC key l : Nat) : Int))))), (10, .a (.v (.int .i64 ((((l.take (0)).countP fun f => !decide (f.data = lockF f.data key) : Nat) : Int))))), (49, .a (.v (.int .i64 ((l.map File.cs).length)))), (50, .a (.v (.int .i64 (((0) : Int)))))], []⟩ ⟨rfl, (Slots.cons rfl (by first | exact .refl _ | exact .nilOwn _ _ | exact .nilSl _ | exact .ownSl _ _ _  | exact SV.le.of_eq (by simp)) (Slots.cons rfl (by first | exact .refl _ | exact .nilOwn _ _ | exact .nilSl _ | exact .ownSl _ _ _  | exact SV.le.of_eq (by simp)) (Slots.cons rfl (by first | exact .refl _ | exact .nilOwn _ _ | exact .nilSl _ | exact .ownSl _ _ _  | exact SV.le.of_eq (by simp)) (Slots.cons rfl (by first | exact .refl _ | exact .nilOwn _ _ | exact .nilSl _ | exact .ownSl _ _ _  | exact SV.le.of_eq (by simp)) (Slots.cons rfl (by first | exact .refl _ | exact .nilOwn _ _ | exact .nilSl _ | exact .ownSl _ _ _  | exact SV.le.of_eq (by simp)) (Slots.cons rfl (by first | exact .refl _ | exact .nilOwn _ _ | exact .nilSl _ | exact .ownSl _ _ _  | exact SV.le.of_eq (by simp)) (Slots.cons rfl (by first | exact .refl _ | exact .nilOwn _ _ | exact .nilSl _ | exact .ownSl _ _ _  | exact SV.le.of_eq (by simp)) (Slots.cons rfl (by first | exact .refl _ | exact .nilOwn _ _ | exact .nilSl _ | exact .ownSl _ _ _  | exact SV.le.of_eq (by simp)) Slots.nil)))))))), (by first | exact List.Sublist.refl _ | exact .cons_cons _ (.cons _ (.refl _)) | exact List.nil_sublist _ | exact .cons _ (.refl _) | exact .cons _ (.cons _ (.refl _)) | exact .cons _ (.cons _ (.cons _ (.refl _))) | exact .cons _ (.cons _ (.cons _ (.cons _ (.refl _)))) | exact .cons_cons _ (List.nil_sublist _))⟩ ⟨0, rfl, rfl, Nat.zero_le _⟩ ?_
     rintro nn0 _ ⟨k, rfl, rfl, hk⟩
     refine awp_seq ?_
     refine awp_region ?_
     refine r_cmp rfl rfl rfl rfl ?_
     refine awl_nil ?_
     refine x_then ?_
     refine awp_seq ?_
     refine awp_cond rfl (fun hc4 => ?_) (fun hc4 => ?_)
     ·
      have hltx : k < l.length := by have := of_decide_eq_true hc4; simpa using this
      obtain ⟨x, hx⟩ := get_lt hltx
      have hxL : (l.map (lkG key))[k]? = some (lkG key x) := by rw [List.getElem?_map, hx]; rfl
      have hcl : ((l.take k).countP fun f => !decide (f.data = lockF f.data key)) ≤ l.length := Nat.le_trans (List.countP_le_length ..) (by rw [List.length_take]; omega)
      refine awp_skip ?_
      refine x_then ?_
      refine awp_seq ?_
      refine awp_block ?_
      refine awp_seq ?_
      refine awp_region ?_
      refine r_move rfl rfl ?_
      refine r_assign rfl rfl ?_
      refine awl_nil ?_
      refine x_then ?_
      refine awp_seq ?_
      refine awp_seq ?_
      refine awp_region ?_
      refine r_move rfl rfl ?_
      refine r_lenS rfl rfl TG.sl24 rfl ?_
      refine r_move rfl rfl ?_
      refine r_lenS rfl rfl TG.sl65 rfl ?_
      refine r_cmp rfl rfl rfl rfl ?_
      refine awl_nil ?_
      refine x_then ?_
      refine awp_cond rfl (fun hc5 => ?_) (fun hc5 => ?_)
      ·
       exfalso; simp at hc5
      ·
       refine awp_skip ?_
       refine x_then ?_
       refine awp_seq ?_
       refine awp_drawS [58, 59, 60, 61, 62, 63, 64, 65, 66, 67, 68, 69] [_, _, _, _, _, _, _, _, _, _, _, _] [] [] TG.mixed rfl rfl rfl ⟨⟨⟨⟨⟨⟨⟨⟨⟨⟨⟨⟨trivial
        , ⟨_, rfl, fun sl hd hr ho => by
          refine r_move (hr 0 _ rfl rfl rfl) rfl ?_
          exact awl_nil ⟨rfl, post_put⟩⟩⟩
        , ⟨_, rfl, fun sl hd hr ho => by
          refine r_move (hr 11 _ rfl rfl rfl) rfl ?_
          exact awl_nil ⟨rfl, post_put⟩⟩⟩
        , ⟨_, rfl, fun sl hd hr ho => by
          refine r_index (hd 0 _ rfl rfl rfl) rfl (hd 1 _ rfl rfl rfl) TG.sl65 TG.sz71 (by omega) (get_map hx) rfl ?_
          exact awl_nil ⟨rfl, post_put⟩⟩⟩
        , ⟨_, rfl, fun sl hd hr ho => by
          refine r_fieldcp (hd 2 _ rfl rfl rfl) TG.f71_1 TG.sz22 rfl ?_
          exact awl_nil ⟨rfl, post_put⟩⟩⟩
        , ⟨_, rfl, fun sl hd hr ho => by
          refine r_load1 (hd 3 _ rfl rfl rfl) TG.agg22 rfl ?_
          exact awl_nil ⟨rfl, post_put⟩⟩⟩
        , ⟨_, rfl, fun sl hd hr ho => by
          refine r_convBS x.data (hd 4 _ rfl rfl rfl) rfl TG.sl22 TG.un5 TG.un9 rfl ?_
          exact awl_nil ⟨rfl, post_put⟩⟩⟩
        , ⟨_, rfl, fun sl hd hr ho => by
          refine r_move (hr 6 _ rfl rfl rfl) rfl ?_
          exact awl_nil ⟨rfl, post_put⟩⟩⟩
        , ⟨_, rfl, fun sl hd hr ho => by
          refine r_move (hr 11 _ rfl rfl rfl) rfl ?_
          exact awl_nil ⟨rfl, post_put⟩⟩⟩
        , ⟨_, rfl, fun sl hd hr ho => by
          refine r_index (hd 6 _ rfl rfl rfl) rfl (hd 7 _ rfl rfl rfl) TG.sl24 TG.sz26 (by omega) (get_map hxL) rfl ?_
          exact awl_nil ⟨rfl, post_put⟩⟩⟩
        , ⟨_, rfl, fun sl hd hr ho => by
          refine r_fieldcp (hd 8 _ rfl rfl rfl) TG.f26_1 TG.sz22 rfl ?_
          exact awl_nil ⟨rfl, post_put⟩⟩⟩
        , ⟨_, rfl, fun sl hd hr ho => by
          refine r_load1 (hd 9 _ rfl rfl rfl) TG.agg22 rfl ?_
          exact awl_nil ⟨rfl, post_put⟩⟩⟩
        , ⟨_, rfl, fun sl hd hr ho => by
          refine r_convBS (lockF x.data key) (hd 10 _ rfl rfl rfl) rfl TG.sl22 TG.un5 TG.un9 rfl ?_
          exact awl_nil ⟨rfl, post_put⟩⟩⟩
        (by rfl) ?_
       refine r_str2 rfl rfl rfl rfl ?_
       refine awl_nil ?_
       refine x_then ?_
       refine awp_cond rfl (fun hc6 => ?_) (fun hc6 => ?_)
       ·
        have hxc : (!decide (x.data = lockF x.data key)) = true := by rw [← neq_data]; exact hc6
        refine awp_region ?_
        refine r_move rfl rfl ?_
        refine r_ari _ rfl rfl rfl (wrap_id (by first | omega | (simp; omega))) rfl ?_
        refine r_assign rfl rfl ?_
        refine awl_nil ?_
        refine x_block ?_
        refine x_then ?_
        refine awp_region ?_
        refine r_ari _ rfl rfl rfl (wrap_id (by first | omega | (simp; omega))) rfl ?_
        refine r_move rfl rfl ?_
        refine awl_nil ?_
        refine x_then ?_
        have hst := cnt_step (p := fun f : File => !decide (f.data = lockF f.data key)) hx
        refine ⟨l.length - (k + 1), ⟨182, [(0, .a (files l)), (1, .a (.v (.int .u8 (key.toNat)))), (5, .a (files l)), (6, .a (files (l.map (lkG key)))), (7, .a (.v (.int .i64 (((manyC key l : Nat) : Int))))), (10, .a (.v (.int .i64 ((((l.take (k + 1)).countP fun f => !decide (f.data = lockF f.data key) : Nat) : Int))))), (49, .a (.v (.int .i64 ((l.map File.cs).length)))), (50, .a (.v (.int .i64 (((k + 1) : Int)))))], []⟩, ⟨rfl, (Slots.cons rfl (by first | exact .refl _ | exact .nilOwn _ _ | exact .nilSl _ | exact .ownSl _ _ _  | exact SV.le.ownEq (by first | rfl | (rw [hst]; simp only [hxc, cond_true, cond_false]; rfl)) | exact SV.le.of_eq (by first | rfl | (rw [hst]; simp only [hxc, cond_true, cond_false]; rfl))) (Slots.cons rfl (by first | exact .refl _ | exact .nilOwn _ _ | exact .nilSl _ | exact .ownSl _ _ _  | exact SV.le.ownEq (by first | rfl | (rw [hst]; simp only [hxc, cond_true, cond_false]; rfl)) | exact SV.le.of_eq (by first | rfl | (rw [hst]; simp only [hxc, cond_true, cond_false]; rfl))) (Slots.cons rfl (by first | exact .refl _ | exact .nilOwn _ _ | exact .nilSl _ | exact .ownSl _ _ _  | exact SV.le.ownEq (by first | rfl | (rw [hst]; simp only [hxc, cond_true, cond_false]; rfl)) | exact SV.le.of_eq (by first | rfl | (rw [hst]; simp only [hxc, cond_true, cond_false]; rfl))) (Slots.cons rfl (by first | exact .refl _ | exact .nilOwn _ _ | exact .nilSl _ | exact .ownSl _ _ _  | exact SV.le.ownEq (by first | rfl | (rw [hst]; simp only [hxc, cond_true, cond_false]; rfl)) | exact SV.le.of_eq (by first | rfl | (rw [hst]; simp only [hxc, cond_true, cond_false]; rfl))) (Slots.cons rfl (by first | exact .refl _ | exact .nilOwn _ _ | exact .nilSl _ | exact .ownSl _ _ _  | exact SV.le.ownEq (by first | rfl | (rw [hst]; simp only [hxc, cond_true, cond_false]; rfl)) | exact SV.le.of_eq (by first | rfl | (rw [hst]; simp only [hxc, cond_true, cond_false]; rfl))) (Slots.cons rfl (by first | exact .refl _ | exact .nilOwn _ _ | exact .nilSl _ | exact .ownSl _ _ _  | exact SV.le.ownEq (by first | rfl | (rw [hst]; simp only [hxc, cond_true, cond_false]; rfl)) | exact SV.le.of_eq (by first | rfl | (rw [hst]; simp only [hxc, cond_true, cond_false]; rfl))) (Slots.cons rfl (by first | exact .refl _ | exact .nilOwn _ _ | exact .nilSl _ | exact .ownSl _ _ _  | exact SV.le.ownEq (by first | rfl | (rw [hst]; simp only [hxc, cond_true, cond_false]; rfl)) | exact SV.le.of_eq (by first | rfl | (rw [hst]; simp only [hxc, cond_true, cond_false]; rfl))) (Slots.cons rfl (by first | exact .refl _ | exact .nilOwn _ _ | exact .nilSl _ | exact .ownSl _ _ _  | exact SV.le.ownEq (by first | rfl | (rw [hst]; simp only [hxc, cond_true, cond_false]; rfl)) | exact SV.le.of_eq (by first | rfl | (rw [hst]; simp only [hxc, cond_true, cond_false]; rfl))) Slots.nil)))))))), (by first | exact List.Sublist.refl _ | exact .cons_cons _ (.cons _ (.refl _)) | exact List.nil_sublist _ | exact .cons _ (.refl _) | exact .cons _ (.cons _ (.refl _)) | exact .cons _ (.cons _ (.cons _ (.refl _))) | exact .cons _ (.cons _ (.cons _ (.cons _ (.refl _)))) | exact .cons_cons _ (List.nil_sublist _))⟩, (by omega), ⟨k + 1, rfl, rfl, (by omega)⟩⟩
       ·
        have hxc : (!decide (x.data = lockF x.data key)) = false := by rw [← neq_data]; exact hc6
        refine awp_skip ?_
        refine x_block ?_
        refine x_then ?_
        refine awp_region ?_
        refine r_ari _ rfl rfl rfl (wrap_id (by first | omega | (simp; omega))) rfl ?_
        refine r_move rfl rfl ?_
        refine awl_nil ?_
        refine x_then ?_
        have hst := cnt_step (p := fun f : File => !decide (f.data = lockF f.data key)) hx
        refine ⟨l.length - (k + 1), ⟨182, [(0, .a (files l)), (1, .a (.v (.int .u8 (key.toNat)))), (5, .a (files l)), (6, .a (files (l.map (lkG key)))), (7, .a (.v (.int .i64 (((manyC key l : Nat) : Int))))), (10, .a (.v (.int .i64 ((((l.take (k + 1)).countP fun f => !decide (f.data = lockF f.data key) : Nat) : Int))))), (49, .a (.v (.int .i64 ((l.map File.cs).length)))), (50, .a (.v (.int .i64 (((k + 1) : Int)))))], []⟩, ⟨rfl, (Slots.cons rfl (by first | exact .refl _ | exact .nilOwn _ _ | exact .nilSl _ | exact .ownSl _ _ _  | exact SV.le.ownEq (by first | rfl | (rw [hst]; simp only [hxc, cond_true, cond_false]; rfl)) | exact SV.le.of_eq (by first | rfl | (rw [hst]; simp only [hxc, cond_true, cond_false]; rfl))) (Slots.cons rfl (by first | exact .refl _ | exact .nilOwn _ _ | exact .nilSl _ | exact .ownSl _ _ _  | exact SV.le.ownEq (by first | rfl | (rw [hst]; simp only [hxc, cond_true, cond_false]; rfl)) | exact SV.le.of_eq (by first | rfl | (rw [hst]; simp only [hxc, cond_true, cond_false]; rfl))) (Slots.cons rfl (by first | exact .refl _ | exact .nilOwn _ _ | exact .nilSl _ | exact .ownSl _ _ _  | exact SV.le.ownEq (by first | rfl | (rw [hst]; simp only [hxc, cond_true, cond_false]; rfl)) | exact SV.le.of_eq (by first | rfl | (rw [hst]; simp only [hxc, cond_true, cond_false]; rfl))) (Slots.cons rfl (by first | exact .refl _ | exact .nilOwn _ _ | exact .nilSl _ | exact .ownSl _ _ _  | exact SV.le.ownEq (by first | rfl | (rw [hst]; simp only [hxc, cond_true, cond_false]; rfl)) | exact SV.le.of_eq (by first | rfl | (rw [hst]; simp only [hxc, cond_true, cond_false]; rfl))) (Slots.cons rfl (by first | exact .refl _ | exact .nilOwn _ _ | exact .nilSl _ | exact .ownSl _ _ _  | exact SV.le.ownEq (by first | rfl | (rw [hst]; simp only [hxc, cond_true, cond_false]; rfl)) | exact SV.le.of_eq (by first | rfl | (rw [hst]; simp only [hxc, cond_true, cond_false]; rfl))) (Slots.cons rfl (by first | exact .refl _ | exact .nilOwn _ _ | exact .nilSl _ | exact .ownSl _ _ _  | exact SV.le.ownEq (by first | rfl | (rw [hst]; simp only [hxc, cond_true, cond_false]; rfl)) | exact SV.le.of_eq (by first | rfl | (rw [hst]; simp only [hxc, cond_true, cond_false]; rfl))) (Slots.cons rfl (by first | exact .refl _ | exact .nilOwn _ _ | exact .nilSl _ | exact .ownSl _ _ _  | exact SV.le.ownEq (by first | rfl | (rw [hst]; simp only [hxc, cond_true, cond_false]; rfl)) | exact SV.le.of_eq (by first | rfl | (rw [hst]; simp only [hxc, cond_true, cond_false]; rfl))) (Slots.cons rfl (by first | exact .refl _ | exact .nilOwn _ _ | exact .nilSl _ | exact .ownSl _ _ _  | exact SV.le.ownEq (by first | rfl | (rw [hst]; simp only [hxc, cond_true, cond_false]; rfl)) | exact SV.le.of_eq (by first | rfl | (rw [hst]; simp only [hxc, cond_true, cond_false]; rfl))) Slots.nil)))))))), (by first | exact List.Sublist.refl _ | exact .cons_cons _ (.cons _ (.refl _)) | exact List.nil_sublist _ | exact .cons _ (.refl _) | exact .cons _ (.cons _ (.refl _)) | exact .cons _ (.cons _ (.cons _ (.refl _))) | exact .cons _ (.cons _ (.cons _ (.cons _ (.refl _)))) | exact .cons_cons _ (List.nil_sublist _))⟩, (by omega), ⟨k + 1, rfl, rfl, (by omega)⟩⟩
     ·
      have hge : l.length ≤ k := by have := of_decide_eq_false hc4; simp at this; omega
      have hmk : ((l.take k).countP fun f => !decide (f.data = lockF f.data key)) = manyC key l := by rw [List.take_of_length_le hge]; rfl
      rw [hmk]
      refine awp_exit ?_
      refine x_thenE ?_
      refine x_thenE ?_
      refine x_blockE ?_
      refine x_then ?_
      refine awp_seq ?_
      refine awp_seq ?_
      refine awp_region ?_
      refine r_move rfl rfl ?_
      refine r_lenS rfl rfl TG.sl65 rfl ?_
      refine r_move rfl rfl ?_
      refine awl_nil ?_
      refine x_then ?_
      refine awp_block ?_
      refine awp_loop (fun nn0 S => ∃ i : Nat, S = ⟨182, [(0, .a (files l)), (5, .a (files l)), (7, .a (.v (.int .i64 (((manyC key l : Nat) : Int))))), (10, .a (.v (.int .i64 (((manyC key l : Nat) : Int))))), (75, .a (.v (.int .i64 ((l.map File.cs).length)))), (76, .a (.v (.int .i64 ((i : Int)))))], []⟩ ∧ nn0 = l.length - i ∧ (i ≤ l.length) ∧ (Seen sfx l i)) (l.length - (0)) ⟨182, [(0, .a (files l)), (5, .a (files l)), (7, .a (.v (.int .i64 (((manyC key l : Nat) : Int))))), (10, .a (.v (.int .i64 (((manyC key l : Nat) : Int))))), (75, .a (.v (.int .i64 ((l.map File.cs).length)))), (76, .a (.v (.int .i64 (((0) : Int)))))], []⟩ ⟨rfl, (Slots.cons rfl (by first | exact .refl _ | exact .nilOwn _ _ | exact .nilSl _ | exact .ownSl _ _ _  | exact SV.le.of_eq (by simp)) (Slots.cons rfl (by first | exact .refl _ | exact .nilOwn _ _ | exact .nilSl _ | exact .ownSl _ _ _  | exact SV.le.of_eq (by simp)) (Slots.cons rfl (by first | exact .refl _ | exact .nilOwn _ _ | exact .nilSl _ | exact .ownSl _ _ _  | exact SV.le.of_eq (by simp)) (Slots.cons rfl (by first | exact .refl _ | exact .nilOwn _ _ | exact .nilSl _ | exact .ownSl _ _ _  | exact SV.le.of_eq (by simp)) (Slots.cons rfl (by first | exact .refl _ | exact .nilOwn _ _ | exact .nilSl _ | exact .ownSl _ _ _  | exact SV.le.of_eq (by simp)) (Slots.cons rfl (by first | exact .refl _ | exact .nilOwn _ _ | exact .nilSl _ | exact .ownSl _ _ _  | exact SV.le.of_eq (by simp)) Slots.nil)))))), (by first | exact List.Sublist.refl _ | exact .cons_cons _ (.cons _ (.refl _)) | exact List.nil_sublist _ | exact .cons _ (.refl _) | exact .cons _ (.cons _ (.refl _)) | exact .cons _ (.cons _ (.cons _ (.refl _))) | exact .cons _ (.cons _ (.cons _ (.cons _ (.refl _)))) | exact .cons_cons _ (List.nil_sublist _))⟩ ⟨0, rfl, rfl, Nat.zero_le _, (seen_zero _ _)⟩ ?_
      rintro nn0 _ ⟨i, rfl, rfl, hi, hsn⟩
      refine awp_seq ?_
      refine awp_region ?_
      refine r_cmp rfl rfl rfl rfl ?_
      refine awl_nil ?_
      refine x_then ?_
      refine awp_seq ?_
      refine awp_cond rfl (fun hc7 => ?_) (fun hc7 => ?_)
      ·
       have hltx : i < l.length := by have := of_decide_eq_true hc7; simpa using this
       obtain ⟨x, hx⟩ := get_lt hltx
       refine awp_skip ?_
       refine x_then ?_
       refine awp_seq ?_
       refine awp_block ?_
       refine awp_seq ?_
       refine awp_region ?_
       refine r_move rfl rfl ?_
       refine r_assign rfl rfl ?_
       refine awl_nil ?_
       refine x_then ?_
       refine awp_seq ?_
       refine awp_seq ?_
       refine awp_region ?_
       refine r_move rfl rfl ?_
       refine r_move rfl rfl ?_
       refine r_index rfl rfl rfl TG.sl65 TG.sz71 (by omega) (get_map hx) rfl ?_
       refine r_fieldcp rfl TG.f71_0 TG.sz9 rfl ?_
       refine r_load1 rfl TG.agg9 rfl ?_
       refine r_lenStr rfl TG.un9 rfl ?_
       refine r_cmp rfl rfl rfl rfl ?_
       refine r_move rfl rfl ?_
       refine g_cases (t' := 86) rfl (fun hg86 => ?_) (fun hg86 => ?_)
       ·
        refine g_skip rfl rfl hg86 rfl ?_
        refine g_skip rfl rfl hg86 rfl ?_
        refine g_skip rfl rfl hg86 rfl ?_
        refine g_skip rfl rfl hg86 rfl ?_
        refine g_skip rfl rfl hg86 rfl ?_
        refine g_skip rfl rfl hg86 rfl ?_
        refine g_skip rfl rfl hg86 rfl ?_
        refine r_pickT rfl hg86 rfl rfl ?_
        refine awl_nil ?_
        refine x_then ?_
        refine awp_condT rfl ?_
        refine awp_seq ?_
        refine awp_region ?_
        refine r_move rfl rfl ?_
        refine r_move rfl rfl ?_
        refine r_cmp rfl rfl rfl rfl ?_
        refine r_assign rfl rfl ?_
        refine awl_nil ?_
        refine x_then ?_
        refine awp_ret ?_
        refine x_thenR ?_
        refine x_blockR ?_
        refine x_thenR ?_
        refine x_thenR ?_
        refine x_blockR ?_
        refine x_thenR ?_
        exact ⟨(.inl rfl), _, [], (.one (by first | exact .mk rfl rfl | exact .nil rfl)), ⟨rfl, by first | rfl | (simp [boolA, SV.av]; done)⟩, (List.nil_sublist _), (by simp)⟩
       ·
        have hn11 : x.name.size ≤ 11 := by have := of_decide_eq_false hg86; omega
        refine g_run rfl rfl hg86 ?_
        refine r_move rfl rfl ?_
        refine g_run rfl rfl hg86 ?_
        refine r_move rfl rfl ?_
        refine g_run rfl rfl hg86 ?_
        refine r_index rfl rfl rfl TG.sl65 TG.sz71 (by omega) (get_map hx) rfl ?_
        refine g_run rfl rfl hg86 ?_
        refine r_fieldcp rfl TG.f71_1 TG.sz22 rfl ?_
        refine g_run rfl rfl hg86 ?_
        refine r_load1 rfl TG.agg22 rfl ?_
        refine g_run rfl rfl hg86 ?_
        refine r_lenS rfl rfl TG.sl22 rfl ?_
        refine g_run rfl rfl hg86 ?_
        refine r_cmp rfl rfl rfl rfl ?_
        refine r_pickF rfl hg86 rfl rfl ?_
        refine awl_nil ?_
        refine x_then ?_
        refine awp_cond rfl (fun hc8 => ?_) (fun hc8 => ?_)
        ·
         refine awp_seq ?_
         refine awp_region ?_
         refine r_move rfl rfl ?_
         refine r_move rfl rfl ?_
         refine r_cmp rfl rfl rfl rfl ?_
         refine r_assign rfl rfl ?_
         refine awl_nil ?_
         refine x_then ?_
         refine awp_ret ?_
         refine x_thenR ?_
         refine x_blockR ?_
         refine x_thenR ?_
         refine x_thenR ?_
         refine x_blockR ?_
         refine x_thenR ?_
         exact ⟨(.inl rfl), _, [], (.one (by first | exact .mk rfl rfl | exact .nil rfl)), ⟨rfl, by first | rfl | (simp [boolA, SV.av]; done)⟩, (List.nil_sublist _), (by simp)⟩
        ·
         have hxd : x.data ≠ [] := by intro h; rw [h] at hc8; exact absurd hc8 (by decide)
         refine awp_skip ?_
         refine x_then ?_
         refine awp_seq ?_
         refine awp_region ?_
         refine r_move rfl rfl ?_
         refine r_lenS rfl rfl TG.sl65 rfl ?_
         refine r_move rfl rfl ?_
         refine awl_nil ?_
         refine x_then ?_
         refine awp_block ?_
         refine awp_loop (fun nn0 S => ∃ k : Nat, S = ⟨182, [(0, .a (files l)), (5, .a (files l)), (7, .a (.v (.int .i64 (((manyC key l : Nat) : Int))))), (10, .a (.v (.int .i64 (((manyC key l : Nat) : Int))))), (75, .a (.v (.int .i64 ((l.map File.cs).length)))), (76, .a (.v (.int .i64 ((i : Int))))), (12, .a (.v (.int .i64 ((i : Int))))), (99, .a (.v (.int .i64 ((l.map File.cs).length)))), (100, .a (.v (.int .i64 ((k : Int)))))], []⟩ ∧ nn0 = l.length - k ∧ (k ≤ l.length) ∧ (∀ j y, j < k → l[j]? = some y → y.name ≠ x.name ++ sfx ∧ (j ≠ i → y.data ≠ x.data))) (l.length - (0)) ⟨182, [(0, .a (files l)), (5, .a (files l)), (7, .a (.v (.int .i64 (((manyC key l : Nat) : Int))))), (10, .a (.v (.int .i64 (((manyC key l : Nat) : Int))))), (75, .a (.v (.int .i64 ((l.map File.cs).length)))), (76, .a (.v (.int .i64 ((i : Int))))), (12, .a (.v (.int .i64 ((i : Int))))), (99, .a (.v (.int .i64 ((l.map File.cs).length)))), (100, .a (.v (.int .i64 (((0) : Int)))))], []⟩ ⟨rfl, (Slots.cons rfl (by first | exact .refl _ | exact .nilOwn _ _ | exact .nilSl _ | exact .ownSl _ _ _  | exact SV.le.of_eq (by simp)) (Slots.cons rfl (by first | exact .refl _ | exact .nilOwn _ _ | exact .nilSl _ | exact .ownSl _ _ _  | exact SV.le.of_eq (by simp)) (Slots.cons rfl (by first | exact .refl _ | exact .nilOwn _ _ | exact .nilSl _ | exact .ownSl _ _ _  | exact SV.le.of_eq (by simp)) (Slots.cons rfl (by first | exact .refl _ | exact .nilOwn _ _ | exact .nilSl _ | exact .ownSl _ _ _  | exact SV.le.of_eq (by simp)) (Slots.cons rfl (by first | exact .refl _ | exact .nilOwn _ _ | exact .nilSl _ | exact .ownSl _ _ _  | exact SV.le.of_eq (by simp)) (Slots.cons rfl (by first | exact .refl _ | exact .nilOwn _ _ | exact .nilSl _ | exact .ownSl _ _ _  | exact SV.le.of_eq (by simp)) (Slots.cons rfl (by first | exact .refl _ | exact .nilOwn _ _ | exact .nilSl _ | exact .ownSl _ _ _  | exact SV.le.of_eq (by simp)) (Slots.cons rfl (by first | exact .refl _ | exact .nilOwn _ _ | exact .nilSl _ | exact .ownSl _ _ _  | exact SV.le.of_eq (by simp)) (Slots.cons rfl (by first | exact .refl _ | exact .nilOwn _ _ | exact .nilSl _ | exact .ownSl _ _ _  | exact SV.le.of_eq (by simp)) Slots.nil))))))))), (by first | exact List.Sublist.refl _ | exact .cons_cons _ (.cons _ (.refl _)) | exact List.nil_sublist _ | exact .cons _ (.refl _) | exact .cons _ (.cons _ (.refl _)) | exact .cons _ (.cons _ (.cons _ (.refl _))) | exact .cons _ (.cons _ (.cons _ (.cons _ (.refl _)))) | exact .cons_cons _ (List.nil_sublist _))⟩ ⟨0, rfl, rfl, Nat.zero_le _, (fun j y h => absurd h (Nat.not_lt_zero _))⟩ ?_
         rintro nn0 _ ⟨k, rfl, rfl, hk, hqk⟩
         refine awp_seq ?_
         refine awp_region ?_
         refine r_cmp rfl rfl rfl rfl ?_
         refine awl_nil ?_
         refine x_then ?_
         refine awp_seq ?_
         refine awp_cond rfl (fun hc9 => ?_) (fun hc9 => ?_)
         ·
          have hlty : k < l.length := by have := of_decide_eq_true hc9; simpa using this
          obtain ⟨y, hy⟩ := get_lt hlty
          refine awp_skip ?_
          refine x_then ?_
          refine awp_seq ?_
          refine awp_block ?_
          refine awp_seq ?_
          refine awp_region ?_
          refine r_move rfl rfl ?_
          refine r_assign rfl rfl ?_
          refine awl_nil ?_
          refine x_then ?_
          refine awp_seq ?_
          rcases Bool.eq_false_or_eq_true (decide (y.name = x.name ++ sfx)) with hg115 | hg115
          ·
           refine awp_drawS [103, 104, 105, 106, 107, 108, 109, 110, 111, 112, 113, 114, 115, 116, 117, 118, 119, 120, 121, 122, 123, 124, 125, 126, 127, 128, 129, 130, 131] [_, _, _, _, _, _, _, _, _, _, _, _, _, _, _, _, _, _, _, _, _, _, _, _, _, _, _, _, _] [] [] TG.mixed rfl rfl rfl ⟨⟨⟨⟨⟨⟨⟨⟨⟨⟨⟨⟨⟨⟨⟨⟨⟨⟨⟨⟨⟨⟨⟨⟨⟨⟨⟨⟨⟨trivial
            , ⟨_, rfl, fun sl hd hr ho => by
              refine r_move (hr 0 _ rfl rfl rfl) rfl ?_
              exact awl_nil ⟨rfl, post_put⟩⟩⟩
            , ⟨_, rfl, fun sl hd hr ho => by
              refine r_move (hr 13 _ rfl rfl rfl) rfl ?_
              exact awl_nil ⟨rfl, post_put⟩⟩⟩
            , ⟨_, rfl, fun sl hd hr ho => by
              refine r_index (hd 0 _ rfl rfl rfl) rfl (hd 1 _ rfl rfl rfl) TG.sl65 TG.sz71 (by omega) (get_map hy) rfl ?_
              exact awl_nil ⟨rfl, post_put⟩⟩⟩
            , ⟨_, rfl, fun sl hd hr ho => by
              refine r_fieldcp (hd 2 _ rfl rfl rfl) TG.f71_0 TG.sz9 rfl ?_
              exact awl_nil ⟨rfl, post_put⟩⟩⟩
            , ⟨_, rfl, fun sl hd hr ho => by
              refine r_load1 (hd 3 _ rfl rfl rfl) TG.agg9 rfl ?_
              exact awl_nil ⟨rfl, post_put⟩⟩⟩
            , ⟨_, rfl, fun sl hd hr ho => by
              refine r_move (hr 0 _ rfl rfl rfl) rfl ?_
              exact awl_nil ⟨rfl, post_put⟩⟩⟩
            , ⟨_, rfl, fun sl hd hr ho => by
              refine r_move (hr 12 _ rfl rfl rfl) rfl ?_
              exact awl_nil ⟨rfl, post_put⟩⟩⟩
            , ⟨_, rfl, fun sl hd hr ho => by
              refine r_index (hd 5 _ rfl rfl rfl) rfl (hd 6 _ rfl rfl rfl) TG.sl65 TG.sz71 (by omega) (get_map hx) rfl ?_
              exact awl_nil ⟨rfl, post_put⟩⟩⟩
            , ⟨_, rfl, fun sl hd hr ho => by
              refine r_fieldcp (hd 7 _ rfl rfl rfl) TG.f71_0 TG.sz9 rfl ?_
              exact awl_nil ⟨rfl, post_put⟩⟩⟩
            , ⟨_, rfl, fun sl hd hr ho => by
              refine r_load1 (hd 8 _ rfl rfl rfl) TG.agg9 rfl ?_
              exact awl_nil ⟨rfl, post_put⟩⟩⟩
            , ⟨_, rfl, fun sl hd hr ho => by
              refine r_cat (hd 9 _ rfl rfl rfl) rfl (by have := hnl x (List.mem_of_getElem? hx); show _ + 1 ≤ _; omega) rfl ?_
              exact awl_nil ⟨rfl, post_put⟩⟩⟩
            , ⟨_, rfl, fun sl hd hr ho => by
              refine r_str2 (hd 4 _ rfl rfl rfl) (hd 10 _ rfl rfl rfl) rfl rfl ?_
              exact awl_nil ⟨rfl, post_put⟩⟩⟩
            , ⟨_, rfl, fun sl hd hr ho => by
              refine r_move (hd 11 _ rfl rfl rfl) rfl ?_
              exact awl_nil ⟨rfl, post_put⟩⟩⟩
            , ⟨_, rfl, fun sl hd hr ho => by
              refine g_skip rfl (hd 12 _ rfl rfl rfl) hg115 rfl ?_
              exact awl_nil ⟨rfl, post_put⟩⟩⟩
            , ⟨_, rfl, fun sl hd hr ho => by
              refine g_skip rfl (hd 12 _ rfl rfl rfl) hg115 rfl ?_
              exact awl_nil ⟨rfl, post_put⟩⟩⟩
            , ⟨_, rfl, fun sl hd hr ho => by
              refine g_skip rfl (hd 12 _ rfl rfl rfl) hg115 rfl ?_
              exact awl_nil ⟨rfl, post_put⟩⟩⟩
            , ⟨_, rfl, fun sl hd hr ho => by
              refine g_skip rfl (hd 12 _ rfl rfl rfl) hg115 rfl ?_
              exact awl_nil ⟨rfl, post_put⟩⟩⟩
            , ⟨_, rfl, fun sl hd hr ho => by
              refine g_skipU rfl (hd 16 _ rfl rfl rfl) rfl ?_
              exact awl_nil ⟨rfl, post_put⟩⟩⟩
            , ⟨_, rfl, fun sl hd hr ho => by
              refine g_skipU rfl (hd 16 _ rfl rfl rfl) rfl ?_
              exact awl_nil ⟨rfl, post_put⟩⟩⟩
            , ⟨_, rfl, fun sl hd hr ho => by
              refine g_skipU rfl (hd 16 _ rfl rfl rfl) rfl ?_
              exact awl_nil ⟨rfl, post_put⟩⟩⟩
            , ⟨_, rfl, fun sl hd hr ho => by
              refine g_skipU rfl (hd 16 _ rfl rfl rfl) rfl ?_
              exact awl_nil ⟨rfl, post_put⟩⟩⟩
            , ⟨_, rfl, fun sl hd hr ho => by
              refine g_skipU rfl (hd 16 _ rfl rfl rfl) rfl ?_
              exact awl_nil ⟨rfl, post_put⟩⟩⟩
            , ⟨_, rfl, fun sl hd hr ho => by
              refine g_skipU rfl (hd 16 _ rfl rfl rfl) rfl ?_
              exact awl_nil ⟨rfl, post_put⟩⟩⟩
            , ⟨_, rfl, fun sl hd hr ho => by
              refine g_skipU rfl (hd 16 _ rfl rfl rfl) rfl ?_
              exact awl_nil ⟨rfl, post_put⟩⟩⟩
            , ⟨_, rfl, fun sl hd hr ho => by
              refine g_skipU rfl (hd 16 _ rfl rfl rfl) rfl ?_
              exact awl_nil ⟨rfl, post_put⟩⟩⟩
            , ⟨_, rfl, fun sl hd hr ho => by
              refine g_skipU rfl (hd 16 _ rfl rfl rfl) rfl ?_
              exact awl_nil ⟨rfl, post_put⟩⟩⟩
            , ⟨_, rfl, fun sl hd hr ho => by
              refine g_skipU rfl (hd 16 _ rfl rfl rfl) rfl ?_
              exact awl_nil ⟨rfl, post_put⟩⟩⟩
            , ⟨_, rfl, fun sl hd hr ho => by
              refine g_skipU rfl (hd 16 _ rfl rfl rfl) rfl ?_
              exact awl_nil ⟨rfl, post_put⟩⟩⟩
            , ⟨_, rfl, fun sl hd hr ho => by
              refine g_skipU rfl (hd 16 _ rfl rfl rfl) rfl ?_
              exact awl_nil ⟨rfl, post_put⟩⟩⟩
            (by rfl) ?_
           refine g_skipU rfl rfl rfl ?_
           refine g_skip rfl rfl hg115 rfl ?_
           refine r_pickT rfl hg115 rfl rfl ?_
           refine awl_nil ?_
           refine x_then ?_
           refine awp_condT rfl ?_
           refine awp_seq ?_
           refine awp_region ?_
           refine r_move rfl rfl ?_
           refine r_move rfl rfl ?_
           refine r_cmp rfl rfl rfl rfl ?_
           refine r_assign rfl rfl ?_
           refine awl_nil ?_
           refine x_then ?_
           refine awp_ret ?_
           refine x_blockR ?_
           refine x_thenR ?_
           refine x_thenR ?_
           refine x_blockR ?_
           refine x_blockR ?_
           refine x_thenR ?_
           refine x_thenR ?_
           refine x_blockR ?_
           refine x_thenR ?_
           exact ⟨(.inl rfl), _, [], (.one (by first | exact .mk rfl rfl | exact .nil rfl)), ⟨rfl, by first | rfl | (simp [boolA, SV.av]; done)⟩, (List.nil_sublist _), (by simp)⟩
          ·
           have hne : y.name ≠ x.name ++ sfx := of_decide_eq_false hg115
           rcases Bool.eq_false_or_eq_true ((k : Int) != (i : Int)) with hg119 | hg119
           ·
            have hki : k ≠ i := by intro e; rw [e] at hg119; simp at hg119
            refine awp_drawS [103, 104, 105, 106, 107, 108, 109, 110, 111, 112, 113, 114, 115, 116, 117, 118, 119, 120, 121, 122, 123, 124, 125, 126, 127, 128, 129, 130, 131] [_, _, _, _, _, _, _, _, _, _, _, _, _, _, _, _, _, _, _, _, _, _, _, _, _, _, _, _, _] [] [] TG.mixed rfl rfl rfl ⟨⟨⟨⟨⟨⟨⟨⟨⟨⟨⟨⟨⟨⟨⟨⟨⟨⟨⟨⟨⟨⟨⟨⟨⟨⟨⟨⟨⟨trivial
             , ⟨_, rfl, fun sl hd hr ho => by
               refine r_move (hr 0 _ rfl rfl rfl) rfl ?_
               exact awl_nil ⟨rfl, post_put⟩⟩⟩
             , ⟨_, rfl, fun sl hd hr ho => by
               refine r_move (hr 13 _ rfl rfl rfl) rfl ?_
               exact awl_nil ⟨rfl, post_put⟩⟩⟩
             , ⟨_, rfl, fun sl hd hr ho => by
               refine r_index (hd 0 _ rfl rfl rfl) rfl (hd 1 _ rfl rfl rfl) TG.sl65 TG.sz71 (by omega) (get_map hy) rfl ?_
               exact awl_nil ⟨rfl, post_put⟩⟩⟩
             , ⟨_, rfl, fun sl hd hr ho => by
               refine r_fieldcp (hd 2 _ rfl rfl rfl) TG.f71_0 TG.sz9 rfl ?_
               exact awl_nil ⟨rfl, post_put⟩⟩⟩
             , ⟨_, rfl, fun sl hd hr ho => by
               refine r_load1 (hd 3 _ rfl rfl rfl) TG.agg9 rfl ?_
               exact awl_nil ⟨rfl, post_put⟩⟩⟩
             , ⟨_, rfl, fun sl hd hr ho => by
               refine r_move (hr 0 _ rfl rfl rfl) rfl ?_
               exact awl_nil ⟨rfl, post_put⟩⟩⟩
             , ⟨_, rfl, fun sl hd hr ho => by
               refine r_move (hr 12 _ rfl rfl rfl) rfl ?_
               exact awl_nil ⟨rfl, post_put⟩⟩⟩
             , ⟨_, rfl, fun sl hd hr ho => by
               refine r_index (hd 5 _ rfl rfl rfl) rfl (hd 6 _ rfl rfl rfl) TG.sl65 TG.sz71 (by omega) (get_map hx) rfl ?_
               exact awl_nil ⟨rfl, post_put⟩⟩⟩
             , ⟨_, rfl, fun sl hd hr ho => by
               refine r_fieldcp (hd 7 _ rfl rfl rfl) TG.f71_0 TG.sz9 rfl ?_
               exact awl_nil ⟨rfl, post_put⟩⟩⟩
             , ⟨_, rfl, fun sl hd hr ho => by
               refine r_load1 (hd 8 _ rfl rfl rfl) TG.agg9 rfl ?_
               exact awl_nil ⟨rfl, post_put⟩⟩⟩
             , ⟨_, rfl, fun sl hd hr ho => by
               refine r_cat (hd 9 _ rfl rfl rfl) rfl (by have := hnl x (List.mem_of_getElem? hx); show _ + 1 ≤ _; omega) rfl ?_
               exact awl_nil ⟨rfl, post_put⟩⟩⟩
             , ⟨_, rfl, fun sl hd hr ho => by
               refine r_str2 (hd 4 _ rfl rfl rfl) (hd 10 _ rfl rfl rfl) rfl rfl ?_
               exact awl_nil ⟨rfl, post_put⟩⟩⟩
             , ⟨_, rfl, fun sl hd hr ho => by
               refine r_move (hd 11 _ rfl rfl rfl) rfl ?_
               exact awl_nil ⟨rfl, post_put⟩⟩⟩
             , ⟨_, rfl, fun sl hd hr ho => by
               refine g_run rfl (hd 12 _ rfl rfl rfl) hg115 ?_
               refine r_move (hr 13 _ rfl rfl rfl) rfl ?_
               exact awl_nil ⟨rfl, post_put⟩⟩⟩
             , ⟨_, rfl, fun sl hd hr ho => by
               refine g_run rfl (hd 12 _ rfl rfl rfl) hg115 ?_
               refine r_move (hr 12 _ rfl rfl rfl) rfl ?_
               exact awl_nil ⟨rfl, post_put⟩⟩⟩
             , ⟨_, rfl, fun sl hd hr ho => by
               refine g_run rfl (hd 12 _ rfl rfl rfl) hg115 ?_
               refine r_cmp (hd 13 _ rfl rfl rfl) (hd 14 _ rfl rfl rfl) rfl rfl ?_
               exact awl_nil ⟨rfl, post_put⟩⟩⟩
             , ⟨_, rfl, fun sl hd hr ho => by
               refine g_run rfl (hd 12 _ rfl rfl rfl) hg115 ?_
               refine r_move (hd 15 _ rfl rfl rfl) rfl ?_
               exact awl_nil ⟨rfl, post_put⟩⟩⟩
             , ⟨_, rfl, fun sl hd hr ho => by
               refine g_run rfl (hd 16 _ rfl rfl rfl) hg119 ?_
               refine r_move (hr 0 _ rfl rfl rfl) rfl ?_
               exact awl_nil ⟨rfl, post_put⟩⟩⟩
             , ⟨_, rfl, fun sl hd hr ho => by
               refine g_run rfl (hd 16 _ rfl rfl rfl) hg119 ?_
               refine r_move (hr 13 _ rfl rfl rfl) rfl ?_
               exact awl_nil ⟨rfl, post_put⟩⟩⟩
             , ⟨_, rfl, fun sl hd hr ho => by
               refine g_run rfl (hd 16 _ rfl rfl rfl) hg119 ?_
               refine r_index (hd 17 _ rfl rfl rfl) rfl (hd 18 _ rfl rfl rfl) TG.sl65 TG.sz71 (by omega) (get_map hy) rfl ?_
               exact awl_nil ⟨rfl, post_put⟩⟩⟩
             , ⟨_, rfl, fun sl hd hr ho => by
               refine g_run rfl (hd 16 _ rfl rfl rfl) hg119 ?_
               refine r_fieldcp (hd 19 _ rfl rfl rfl) TG.f71_1 TG.sz22 rfl ?_
               exact awl_nil ⟨rfl, post_put⟩⟩⟩
             , ⟨_, rfl, fun sl hd hr ho => by
               refine g_run rfl (hd 16 _ rfl rfl rfl) hg119 ?_
               refine r_load1 (hd 20 _ rfl rfl rfl) TG.agg22 rfl ?_
               exact awl_nil ⟨rfl, post_put⟩⟩⟩
             , ⟨_, rfl, fun sl hd hr ho => by
               refine g_run rfl (hd 16 _ rfl rfl rfl) hg119 ?_
               refine r_convBS y.data (hd 21 _ rfl rfl rfl) rfl TG.sl22 TG.un5 TG.un9 rfl ?_
               exact awl_nil ⟨rfl, post_put⟩⟩⟩
             , ⟨_, rfl, fun sl hd hr ho => by
               refine g_run rfl (hd 16 _ rfl rfl rfl) hg119 ?_
               refine r_move (hr 0 _ rfl rfl rfl) rfl ?_
               exact awl_nil ⟨rfl, post_put⟩⟩⟩
             , ⟨_, rfl, fun sl hd hr ho => by
               refine g_run rfl (hd 16 _ rfl rfl rfl) hg119 ?_
               refine r_move (hr 12 _ rfl rfl rfl) rfl ?_
               exact awl_nil ⟨rfl, post_put⟩⟩⟩
             , ⟨_, rfl, fun sl hd hr ho => by
               refine g_run rfl (hd 16 _ rfl rfl rfl) hg119 ?_
               refine r_index (hd 23 _ rfl rfl rfl) rfl (hd 24 _ rfl rfl rfl) TG.sl65 TG.sz71 (by omega) (get_map hx) rfl ?_
               exact awl_nil ⟨rfl, post_put⟩⟩⟩
             , ⟨_, rfl, fun sl hd hr ho => by
               refine g_run rfl (hd 16 _ rfl rfl rfl) hg119 ?_
               refine r_fieldcp (hd 25 _ rfl rfl rfl) TG.f71_1 TG.sz22 rfl ?_
               exact awl_nil ⟨rfl, post_put⟩⟩⟩
             , ⟨_, rfl, fun sl hd hr ho => by
               refine g_run rfl (hd 16 _ rfl rfl rfl) hg119 ?_
               refine r_load1 (hd 26 _ rfl rfl rfl) TG.agg22 rfl ?_
               exact awl_nil ⟨rfl, post_put⟩⟩⟩
             , ⟨_, rfl, fun sl hd hr ho => by
               refine g_run rfl (hd 16 _ rfl rfl rfl) hg119 ?_
               refine r_convBS x.data (hd 27 _ rfl rfl rfl) rfl TG.sl22 TG.un5 TG.un9 rfl ?_
               exact awl_nil ⟨rfl, post_put⟩⟩⟩
             (by rfl) ?_
            refine g_run rfl rfl hg119 ?_
            refine r_str2 rfl rfl rfl rfl ?_
            refine g_run rfl rfl hg115 ?_
            refine r_pickT rfl hg119 rfl rfl ?_
            refine r_pickF rfl hg115 rfl rfl ?_
            refine awl_nil ?_
            refine x_then ?_
            refine awp_cond rfl (fun hc10 => ?_) (fun hc10 => ?_)
            ·
             refine awp_seq ?_
             refine awp_region ?_
             refine r_move rfl rfl ?_
             refine r_move rfl rfl ?_
             refine r_cmp rfl rfl rfl rfl ?_
             refine r_assign rfl rfl ?_
             refine awl_nil ?_
             refine x_then ?_
             refine awp_ret ?_
             refine x_blockR ?_
             refine x_thenR ?_
             refine x_thenR ?_
             refine x_blockR ?_
             refine x_blockR ?_
             refine x_thenR ?_
             refine x_thenR ?_
             refine x_blockR ?_
             refine x_thenR ?_
             exact ⟨(.inl rfl), _, [], (.one (by first | exact .mk rfl rfl | exact .nil rfl)), ⟨rfl, by first | rfl | (simp [boolA, SV.av]; done)⟩, (List.nil_sublist _), (by simp)⟩
            ·
             have hnd3 : k ≠ i → y.data ≠ x.data := fun h => by
              first
              | exact absurd hki h
              | (intro e; have h9 := of_decide_eq_false hc10; rw [e] at h9; exact h9 rfl)
             refine awp_skip ?_
             refine x_block ?_
             refine x_then ?_
             refine awp_region ?_
             refine r_ari _ rfl rfl rfl (wrap_id (by first | omega | (simp; omega))) rfl ?_
             refine r_move rfl rfl ?_
             refine awl_nil ?_
             refine x_then ?_
             refine ⟨l.length - (k + 1), ⟨182, [(0, .a (files l)), (5, .a (files l)), (7, .a (.v (.int .i64 (((manyC key l : Nat) : Int))))), (10, .a (.v (.int .i64 (((manyC key l : Nat) : Int))))), (75, .a (.v (.int .i64 ((l.map File.cs).length)))), (76, .a (.v (.int .i64 ((i : Int))))), (12, .a (.v (.int .i64 ((i : Int))))), (99, .a (.v (.int .i64 ((l.map File.cs).length)))), (100, .a (.v (.int .i64 (((k + 1) : Int)))))], []⟩, ⟨rfl, (Slots.cons rfl (by first | exact .refl _ | exact .nilOwn _ _ | exact .nilSl _ | exact .ownSl _ _ _  | exact SV.le.of_eq (by simp)) (Slots.cons rfl (by first | exact .refl _ | exact .nilOwn _ _ | exact .nilSl _ | exact .ownSl _ _ _  | exact SV.le.of_eq (by simp)) (Slots.cons rfl (by first | exact .refl _ | exact .nilOwn _ _ | exact .nilSl _ | exact .ownSl _ _ _  | exact SV.le.of_eq (by simp)) (Slots.cons rfl (by first | exact .refl _ | exact .nilOwn _ _ | exact .nilSl _ | exact .ownSl _ _ _  | exact SV.le.of_eq (by simp)) (Slots.cons rfl (by first | exact .refl _ | exact .nilOwn _ _ | exact .nilSl _ | exact .ownSl _ _ _  | exact SV.le.of_eq (by simp)) (Slots.cons rfl (by first | exact .refl _ | exact .nilOwn _ _ | exact .nilSl _ | exact .ownSl _ _ _  | exact SV.le.of_eq (by simp)) (Slots.cons rfl (by first | exact .refl _ | exact .nilOwn _ _ | exact .nilSl _ | exact .ownSl _ _ _  | exact SV.le.of_eq (by simp)) (Slots.cons rfl (by first | exact .refl _ | exact .nilOwn _ _ | exact .nilSl _ | exact .ownSl _ _ _  | exact SV.le.of_eq (by simp)) (Slots.cons rfl (by first | exact .refl _ | exact .nilOwn _ _ | exact .nilSl _ | exact .ownSl _ _ _  | exact SV.le.of_eq (by simp)) Slots.nil))))))))), (by first | exact List.Sublist.refl _ | exact .cons_cons _ (.cons _ (.refl _)) | exact List.nil_sublist _ | exact .cons _ (.refl _) | exact .cons _ (.cons _ (.refl _)) | exact .cons _ (.cons _ (.cons _ (.refl _))) | exact .cons _ (.cons _ (.cons _ (.cons _ (.refl _)))) | exact .cons_cons _ (List.nil_sublist _))⟩, (by omega), ⟨k + 1, rfl, rfl, (by omega), (fun j z hj hz => by
               by_cases e : j = k
               · subst e; rw [hy] at hz; cases hz; exact ⟨hne, hnd3⟩
               · exact hqk j z (by omega) hz)⟩⟩
           ·
            have hki : k = i := by have := (bne_eq_false_iff_eq.1 hg119); omega
            refine awp_drawS [103, 104, 105, 106, 107, 108, 109, 110, 111, 112, 113, 114, 115, 116, 117, 118, 119, 120, 121, 122, 123, 124, 125, 126, 127, 128, 129, 130, 131] [_, _, _, _, _, _, _, _, _, _, _, _, _, _, _, _, _, _, _, _, _, _, _, _, _, _, _, _, _] [] [] TG.mixed rfl rfl rfl ⟨⟨⟨⟨⟨⟨⟨⟨⟨⟨⟨⟨⟨⟨⟨⟨⟨⟨⟨⟨⟨⟨⟨⟨⟨⟨⟨⟨⟨trivial
             , ⟨_, rfl, fun sl hd hr ho => by
               refine r_move (hr 0 _ rfl rfl rfl) rfl ?_
               exact awl_nil ⟨rfl, post_put⟩⟩⟩
             , ⟨_, rfl, fun sl hd hr ho => by
               refine r_move (hr 13 _ rfl rfl rfl) rfl ?_
               exact awl_nil ⟨rfl, post_put⟩⟩⟩
             , ⟨_, rfl, fun sl hd hr ho => by
               refine r_index (hd 0 _ rfl rfl rfl) rfl (hd 1 _ rfl rfl rfl) TG.sl65 TG.sz71 (by omega) (get_map hy) rfl ?_
               exact awl_nil ⟨rfl, post_put⟩⟩⟩
             , ⟨_, rfl, fun sl hd hr ho => by
               refine r_fieldcp (hd 2 _ rfl rfl rfl) TG.f71_0 TG.sz9 rfl ?_
               exact awl_nil ⟨rfl, post_put⟩⟩⟩
             , ⟨_, rfl, fun sl hd hr ho => by
               refine r_load1 (hd 3 _ rfl rfl rfl) TG.agg9 rfl ?_
               exact awl_nil ⟨rfl, post_put⟩⟩⟩
             , ⟨_, rfl, fun sl hd hr ho => by
               refine r_move (hr 0 _ rfl rfl rfl) rfl ?_
               exact awl_nil ⟨rfl, post_put⟩⟩⟩
             , ⟨_, rfl, fun sl hd hr ho => by
               refine r_move (hr 12 _ rfl rfl rfl) rfl ?_
               exact awl_nil ⟨rfl, post_put⟩⟩⟩
             , ⟨_, rfl, fun sl hd hr ho => by
               refine r_index (hd 5 _ rfl rfl rfl) rfl (hd 6 _ rfl rfl rfl) TG.sl65 TG.sz71 (by omega) (get_map hx) rfl ?_
               exact awl_nil ⟨rfl, post_put⟩⟩⟩
             , ⟨_, rfl, fun sl hd hr ho => by
               refine r_fieldcp (hd 7 _ rfl rfl rfl) TG.f71_0 TG.sz9 rfl ?_
               exact awl_nil ⟨rfl, post_put⟩⟩⟩
             , ⟨_, rfl, fun sl hd hr ho => by
               refine r_load1 (hd 8 _ rfl rfl rfl) TG.agg9 rfl ?_
               exact awl_nil ⟨rfl, post_put⟩⟩⟩
             , ⟨_, rfl, fun sl hd hr ho => by
               refine r_cat (hd 9 _ rfl rfl rfl) rfl (by have := hnl x (List.mem_of_getElem? hx); show _ + 1 ≤ _; omega) rfl ?_
               exact awl_nil ⟨rfl, post_put⟩⟩⟩
             , ⟨_, rfl, fun sl hd hr ho => by
               refine r_str2 (hd 4 _ rfl rfl rfl) (hd 10 _ rfl rfl rfl) rfl rfl ?_
               exact awl_nil ⟨rfl, post_put⟩⟩⟩
             , ⟨_, rfl, fun sl hd hr ho => by
               refine r_move (hd 11 _ rfl rfl rfl) rfl ?_
               exact awl_nil ⟨rfl, post_put⟩⟩⟩
             , ⟨_, rfl, fun sl hd hr ho => by
               refine g_run rfl (hd 12 _ rfl rfl rfl) hg115 ?_
               refine r_move (hr 13 _ rfl rfl rfl) rfl ?_
               exact awl_nil ⟨rfl, post_put⟩⟩⟩
             , ⟨_, rfl, fun sl hd hr ho => by
               refine g_run rfl (hd 12 _ rfl rfl rfl) hg115 ?_
               refine r_move (hr 12 _ rfl rfl rfl) rfl ?_
               exact awl_nil ⟨rfl, post_put⟩⟩⟩
             , ⟨_, rfl, fun sl hd hr ho => by
               refine g_run rfl (hd 12 _ rfl rfl rfl) hg115 ?_
               refine r_cmp (hd 13 _ rfl rfl rfl) (hd 14 _ rfl rfl rfl) rfl rfl ?_
               exact awl_nil ⟨rfl, post_put⟩⟩⟩
             , ⟨_, rfl, fun sl hd hr ho => by
               refine g_run rfl (hd 12 _ rfl rfl rfl) hg115 ?_
               refine r_move (hd 15 _ rfl rfl rfl) rfl ?_
               exact awl_nil ⟨rfl, post_put⟩⟩⟩
             , ⟨_, rfl, fun sl hd hr ho => by
               refine g_skip rfl (hd 16 _ rfl rfl rfl) hg119 rfl ?_
               exact awl_nil ⟨rfl, post_put⟩⟩⟩
             , ⟨_, rfl, fun sl hd hr ho => by
               refine g_skip rfl (hd 16 _ rfl rfl rfl) hg119 rfl ?_
               exact awl_nil ⟨rfl, post_put⟩⟩⟩
             , ⟨_, rfl, fun sl hd hr ho => by
               refine g_skip rfl (hd 16 _ rfl rfl rfl) hg119 rfl ?_
               exact awl_nil ⟨rfl, post_put⟩⟩⟩
             , ⟨_, rfl, fun sl hd hr ho => by
               refine g_skip rfl (hd 16 _ rfl rfl rfl) hg119 rfl ?_
               exact awl_nil ⟨rfl, post_put⟩⟩⟩
             , ⟨_, rfl, fun sl hd hr ho => by
               refine g_skip rfl (hd 16 _ rfl rfl rfl) hg119 rfl ?_
               exact awl_nil ⟨rfl, post_put⟩⟩⟩
             , ⟨_, rfl, fun sl hd hr ho => by
               refine g_skip rfl (hd 16 _ rfl rfl rfl) hg119 rfl ?_
               exact awl_nil ⟨rfl, post_put⟩⟩⟩
             , ⟨_, rfl, fun sl hd hr ho => by
               refine g_skip rfl (hd 16 _ rfl rfl rfl) hg119 rfl ?_
               exact awl_nil ⟨rfl, post_put⟩⟩⟩
             , ⟨_, rfl, fun sl hd hr ho => by
               refine g_skip rfl (hd 16 _ rfl rfl rfl) hg119 rfl ?_
               exact awl_nil ⟨rfl, post_put⟩⟩⟩
             , ⟨_, rfl, fun sl hd hr ho => by
               refine g_skip rfl (hd 16 _ rfl rfl rfl) hg119 rfl ?_
               exact awl_nil ⟨rfl, post_put⟩⟩⟩
             , ⟨_, rfl, fun sl hd hr ho => by
               refine g_skip rfl (hd 16 _ rfl rfl rfl) hg119 rfl ?_
               exact awl_nil ⟨rfl, post_put⟩⟩⟩
             , ⟨_, rfl, fun sl hd hr ho => by
               refine g_skip rfl (hd 16 _ rfl rfl rfl) hg119 rfl ?_
               exact awl_nil ⟨rfl, post_put⟩⟩⟩
             , ⟨_, rfl, fun sl hd hr ho => by
               refine g_skip rfl (hd 16 _ rfl rfl rfl) hg119 rfl ?_
               exact awl_nil ⟨rfl, post_put⟩⟩⟩
             (by rfl) ?_
            refine g_skip rfl rfl hg119 rfl ?_
            refine g_run rfl rfl hg115 ?_
            refine r_pickF rfl hg119 rfl rfl ?_
            refine r_pickF rfl hg115 rfl rfl ?_
            refine awl_nil ?_
            refine x_then ?_
            refine awp_condF rfl ?_
            have hnd3 : k ≠ i → y.data ≠ x.data := fun h => by
             first
             | exact absurd hki h
             | (intro e; have h9 := of_decide_eq_false hc10; rw [e] at h9; exact h9 rfl)
            refine awp_skip ?_
            refine x_block ?_
            refine x_then ?_
            refine awp_region ?_
            refine r_ari _ rfl rfl rfl (wrap_id (by first | omega | (simp; omega))) rfl ?_
            refine r_move rfl rfl ?_
            refine awl_nil ?_
            refine x_then ?_
            refine ⟨l.length - (k + 1), ⟨182, [(0, .a (files l)), (5, .a (files l)), (7, .a (.v (.int .i64 (((manyC key l : Nat) : Int))))), (10, .a (.v (.int .i64 (((manyC key l : Nat) : Int))))), (75, .a (.v (.int .i64 ((l.map File.cs).length)))), (76, .a (.v (.int .i64 ((i : Int))))), (12, .a (.v (.int .i64 ((i : Int))))), (99, .a (.v (.int .i64 ((l.map File.cs).length)))), (100, .a (.v (.int .i64 (((k + 1) : Int)))))], []⟩, ⟨rfl, (Slots.cons rfl (by first | exact .refl _ | exact .nilOwn _ _ | exact .nilSl _ | exact .ownSl _ _ _  | exact SV.le.of_eq (by simp)) (Slots.cons rfl (by first | exact .refl _ | exact .nilOwn _ _ | exact .nilSl _ | exact .ownSl _ _ _  | exact SV.le.of_eq (by simp)) (Slots.cons rfl (by first | exact .refl _ | exact .nilOwn _ _ | exact .nilSl _ | exact .ownSl _ _ _  | exact SV.le.of_eq (by simp)) (Slots.cons rfl (by first | exact .refl _ | exact .nilOwn _ _ | exact .nilSl _ | exact .ownSl _ _ _  | exact SV.le.of_eq (by simp)) (Slots.cons rfl (by first | exact .refl _ | exact .nilOwn _ _ | exact .nilSl _ | exact .ownSl _ _ _  | exact SV.le.of_eq (by simp)) (Slots.cons rfl (by first | exact .refl _ | exact .nilOwn _ _ | exact .nilSl _ | exact .ownSl _ _ _  | exact SV.le.of_eq (by simp)) (Slots.cons rfl (by first | exact .refl _ | exact .nilOwn _ _ | exact .nilSl _ | exact .ownSl _ _ _  | exact SV.le.of_eq (by simp)) (Slots.cons rfl (by first | exact .refl _ | exact .nilOwn _ _ | exact .nilSl _ | exact .ownSl _ _ _  | exact SV.le.of_eq (by simp)) (Slots.cons rfl (by first | exact .refl _ | exact .nilOwn _ _ | exact .nilSl _ | exact .ownSl _ _ _  | exact SV.le.of_eq (by simp)) Slots.nil))))))))), (by first | exact List.Sublist.refl _ | exact .cons_cons _ (.cons _ (.refl _)) | exact List.nil_sublist _ | exact .cons _ (.refl _) | exact .cons _ (.cons _ (.refl _)) | exact .cons _ (.cons _ (.cons _ (.refl _))) | exact .cons _ (.cons _ (.cons _ (.cons _ (.refl _)))) | exact .cons_cons _ (List.nil_sublist _))⟩, (by omega), ⟨k + 1, rfl, rfl, (by omega), (fun j z hj hz => by
              by_cases e : j = k
              · subst e; rw [hy] at hz; cases hz; exact ⟨hne, hnd3⟩
              · exact hqk j z (by omega) hz)⟩⟩
         ·
          have hge : l.length ≤ k := by have := of_decide_eq_false hc9; simp at this; omega
          have hq : ∀ j y, l[j]? = some y → y.name ≠ x.name ++ sfx ∧ (j ≠ i → y.data ≠ x.data) := fun j y hy => hqk j y (by have := (List.getElem?_eq_some_iff.1 hy).1; omega) hy
          refine awp_exit ?_
          refine x_thenE ?_
          refine x_thenE ?_
          refine x_blockE ?_
          refine x_block ?_
          refine x_then ?_
          refine awp_region ?_
          refine r_ari _ rfl rfl rfl (wrap_id (by first | omega | (simp; omega))) rfl ?_
          refine r_move rfl rfl ?_
          refine awl_nil ?_
          refine x_then ?_
          refine ⟨l.length - (i + 1), ⟨182, [(0, .a (files l)), (5, .a (files l)), (7, .a (.v (.int .i64 (((manyC key l : Nat) : Int))))), (10, .a (.v (.int .i64 (((manyC key l : Nat) : Int))))), (75, .a (.v (.int .i64 ((l.map File.cs).length)))), (76, .a (.v (.int .i64 (((i + 1) : Int)))))], []⟩, ⟨rfl, (Slots.cons rfl (by first | exact .refl _ | exact .nilOwn _ _ | exact .nilSl _ | exact .ownSl _ _ _  | exact SV.le.of_eq (by simp)) (Slots.cons rfl (by first | exact .refl _ | exact .nilOwn _ _ | exact .nilSl _ | exact .ownSl _ _ _  | exact SV.le.of_eq (by simp)) (Slots.cons rfl (by first | exact .refl _ | exact .nilOwn _ _ | exact .nilSl _ | exact .ownSl _ _ _  | exact SV.le.of_eq (by simp)) (Slots.cons rfl (by first | exact .refl _ | exact .nilOwn _ _ | exact .nilSl _ | exact .ownSl _ _ _  | exact SV.le.of_eq (by simp)) (Slots.cons rfl (by first | exact .refl _ | exact .nilOwn _ _ | exact .nilSl _ | exact .ownSl _ _ _  | exact SV.le.of_eq (by simp)) (Slots.cons rfl (by first | exact .refl _ | exact .nilOwn _ _ | exact .nilSl _ | exact .ownSl _ _ _  | exact SV.le.of_eq (by simp)) Slots.nil)))))), (by first | exact List.Sublist.refl _ | exact .cons_cons _ (.cons _ (.refl _)) | exact List.nil_sublist _ | exact .cons _ (.refl _) | exact .cons _ (.cons _ (.refl _)) | exact .cons _ (.cons _ (.cons _ (.refl _))) | exact .cons _ (.cons _ (.cons _ (.cons _ (.refl _)))) | exact .cons_cons _ (List.nil_sublist _))⟩, (by omega), ⟨i + 1, rfl, rfl, (by omega), (seen_step hsn hx hn11 hxd hq)⟩⟩
      ·
       have hge : l.length ≤ i := by have := of_decide_eq_false hc7; simp at this; omega
       obtain rfl : i = l.length := by omega
       have hfree := seen_free hsn
       have hap := seen_apart hsn
       have hr2 := seen_right hok hsn
       have hokN := okFs_nameE hok hr2 hfree
       have hnl2 : (l.map (nmG sfx)).length = l.length := List.length_map ..
       obtain ⟨hnn, hnd2⟩ := okFs_bnd hokN
       have hnN : ∀ f ∈ (l.map (nmG sfx)), f.name.size ≤ 1000000 := fun f hf => Nat.le_trans (hnn f hf) (by decide)
       have hnD : ∀ f ∈ (l.map (nmG sfx)), f.data.length ≤ 1000000 := fun f hf => Nat.le_trans (hnd2 f hf) (by decide)
       refine awp_exit ?_
       refine x_thenE ?_
       refine x_thenE ?_
       refine x_blockE ?_
       refine x_then ?_
       refine awp_seq ?_
       refine awp_region ?_
       refine r_move rfl rfl ?_
       refine r_callPC hq MG hcs (wo := []) (un := []) rfl rfl (.cons (.ev rfl rfl) (.cons (.ev rfl rfl) (.cons (.ev rfl rfl) .nil))) (rename_ok l hok sfx (by decide)) rfl TG.en25 (List.Perm.refl _) (List.nil_sublist _) rfl (fun r nobjs hr => ?_)
       obtain ⟨h0, -, -⟩ | ⟨g3, cap3, rfl, rfl⟩ := hr
       · exact absurd (List.append_eq_nil_iff.1 (List.map_eq_nil_iff.1 h0)).1 (rows_ne (disk_ne _))
       refine awl_imp (imp_commitB 0 141 rfl rfl rfl) ?_
       refine r_callPC hq MG hcs (wo := []) (un := []) rfl rfl (.cons (.ev rfl rfl) .nil) (left_ok (rowsF (diskF l) ++ evsF (evN sfx l) l.length) (evs_ds_len hok (evN_len sfx l)) (rename_ws sfx) (l.map (nmG sfx)) hokN (rename_left hok hr2 hfree)) rfl TG.en24 (List.Perm.refl _) (List.nil_sublist _) rfl (fun r nobjs hr => ?_)
       obtain ⟨rfl, rfl⟩ := hr
       refine r_assign rfl rfl ?_
       refine awl_nil ?_
       refine x_then ?_
       refine awp_seq ?_
       refine awp_region ?_
       refine r_move rfl rfl ?_
       refine r_move rfl rfl ?_
       refine r_call0 hq rfl rfl (.cons (.ev rfl rfl) (.cons (.ev rfl rfl) .nil)) (of_ok l (l.map (nmG sfx)) (by omega) (by omega) hnl hnN hdl hnD) rfl TG.en18 rfl (fun r hr => ?_)
       obtain rfl := hr
       rw [of_names hnd hap hfree]
       have hnL := names_nlen hnd
       obtain ⟨fl, hfl⟩ : ∃ fl, fl = (namesF l).map (renS sfx) := ⟨_, rfl⟩
       have hfL : fl.length = l.length := by rw [hfl, List.length_map, hnL]
       rw [← hfl]
       refine r_assign rfl rfl ?_
       refine awl_nil ?_
       refine x_then ?_
       refine awp_seq ?_
       refine awp_seq ?_
       refine awp_region ?_
       refine r_move rfl rfl ?_
       refine r_lenS rfl rfl TG.sl57 rfl ?_
       refine r_move rfl rfl ?_
       refine awl_nil ?_
       refine x_then ?_
       refine awp_block ?_
       refine awp_loop (fun nn0 S => ∃ k : Nat, S = ⟨182, [(0, .a (files l)), (5, .a (files l)), (7, .a (.v (.int .i64 (((manyC key l : Nat) : Int))))), (10, .a (.v (.int .i64 (((manyC key l : Nat) : Int))))), (14, .a (files (l.map (nmG sfx)))), (15, .a (fcsA fl)), (146, .a (fcsA fl)), (147, .a (.v (.int .i64 ((fl.map FC.cs).length)))), (148, .a (.v (.int .i64 ((k : Int)))))], []⟩ ∧ nn0 = fl.length - k ∧ (k ≤ fl.length)) (fl.length - (0)) ⟨182, [(0, .a (files l)), (5, .a (files l)), (7, .a (.v (.int .i64 (((manyC key l : Nat) : Int))))), (10, .a (.v (.int .i64 (((manyC key l : Nat) : Int))))), (14, .a (files (l.map (nmG sfx)))), (15, .a (fcsA fl)), (146, .a (fcsA fl)), (147, .a (.v (.int .i64 ((fl.map FC.cs).length)))), (148, .a (.v (.int .i64 (((0) : Int)))))], []⟩ ⟨rfl, (Slots.cons rfl (by first | exact .refl _ | exact .nilOwn _ _ | exact .nilSl _ | exact .ownSl _ _ _  | exact SV.le.of_eq (by simp)) (Slots.cons rfl (by first | exact .refl _ | exact .nilOwn _ _ | exact .nilSl _ | exact .ownSl _ _ _  | exact SV.le.of_eq (by simp)) (Slots.cons rfl (by first | exact .refl _ | exact .nilOwn _ _ | exact .nilSl _ | exact .ownSl _ _ _  | exact SV.le.of_eq (by simp)) (Slots.cons rfl (by first | exact .refl _ | exact .nilOwn _ _ | exact .nilSl _ | exact .ownSl _ _ _  | exact SV.le.of_eq (by simp)) (Slots.cons rfl (by first | exact .refl _ | exact .nilOwn _ _ | exact .nilSl _ | exact .ownSl _ _ _  | exact SV.le.of_eq (by simp)) (Slots.cons rfl (by first | exact .refl _ | exact .nilOwn _ _ | exact .nilSl _ | exact .ownSl _ _ _  | exact SV.le.of_eq (by simp)) (Slots.cons rfl (by first | exact .refl _ | exact .nilOwn _ _ | exact .nilSl _ | exact .ownSl _ _ _  | exact SV.le.of_eq (by simp)) (Slots.cons rfl (by first | exact .refl _ | exact .nilOwn _ _ | exact .nilSl _ | exact .ownSl _ _ _  | exact SV.le.of_eq (by simp)) (Slots.cons rfl (by first | exact .refl _ | exact .nilOwn _ _ | exact .nilSl _ | exact .ownSl _ _ _  | exact SV.le.of_eq (by simp)) Slots.nil))))))))), (by first | exact List.Sublist.refl _ | exact .cons_cons _ (.cons _ (.refl _)) | exact List.nil_sublist _ | exact .cons _ (.refl _) | exact .cons _ (.cons _ (.refl _)) | exact .cons _ (.cons _ (.cons _ (.refl _))) | exact .cons _ (.cons _ (.cons _ (.cons _ (.refl _)))) | exact .cons_cons _ (List.nil_sublist _))⟩ ⟨0, rfl, rfl, Nat.zero_le _⟩ ?_
       rintro nn0 _ ⟨k, rfl, rfl, hk⟩
       refine awp_seq ?_
       refine awp_region ?_
       refine r_cmp rfl rfl rfl rfl ?_
       refine awl_nil ?_
       refine x_then ?_
       refine awp_seq ?_
       refine awp_cond rfl (fun hc11 => ?_) (fun hc11 => ?_)
       ·
        have hltx : k < fl.length := by have := of_decide_eq_true hc11; simpa using this
        obtain ⟨x, hx⟩ := get_lt hltx
        obtain ⟨s, hs, rfl⟩ := ren_fc (by rw [← hfl]; exact hx)
        have hsz := name_small hnl hs
        refine awp_skip ?_
        refine x_then ?_
        refine awp_seq ?_
        refine awp_block ?_
        refine awp_seq ?_
        refine awp_region ?_
        refine r_index rfl rfl rfl TG.sl57 TG.sz70 (by omega) (get_map hx) rfl ?_
        refine r_loadA rfl TG.agg70 TG.sz70 rfl rfl ?_
        refine r_alloc TG.zero70 rfl (fun b17 => ?_)
        refine r_store 0 rfl rfl rfl TG.sz70 rfl rfl rfl ?_
        refine awl_nil ?_
        refine x_then ?_
        refine awp_seq ?_
        refine awp_region ?_
        refine r_fieldb rfl TG.f70_0 TG.sz3 rfl ?_
        refine r_load1b 0 rfl rfl rfl TG.agg3 rfl ?_
        refine r_cmp rfl rfl rfl rfl ?_
        refine r_move rfl rfl ?_
        refine g_run rfl rfl rfl ?_
        refine r_fieldb rfl TG.f70_2 TG.sz9 rfl ?_
        refine g_run rfl rfl rfl ?_
        refine r_load1b 0 rfl rfl rfl TG.agg9 rfl ?_
        refine g_run rfl rfl rfl ?_
        refine r_fieldb rfl TG.f70_1 TG.sz9 rfl ?_
        refine g_run rfl rfl rfl ?_
        refine r_load1b 0 rfl rfl rfl TG.agg9 rfl ?_
        refine g_run rfl rfl rfl ?_
        refine r_cat rfl rfl (by show s.size + 1 ≤ _; omega) rfl ?_
        refine g_run rfl rfl rfl ?_
        refine r_str2 rfl rfl rfl rfl ?_
        refine r_pickF rfl rfl rfl rfl ?_
        refine awl_nil ?_
        refine x_then ?_
        refine awp_cond rfl (fun hc12 => ?_) (fun hc12 => ?_)
        ·
         exfalso; simp [renS] at hc12
        ·
         refine awp_skip ?_
         refine x_block ?_
         refine x_then ?_
         refine awp_region ?_
         refine r_ari _ rfl rfl rfl (wrap_id (by first | omega | (simp; omega))) rfl ?_
         refine r_move rfl rfl ?_
         refine awl_nil ?_
         refine x_then ?_
         refine ⟨fl.length - (k + 1), ⟨182, [(0, .a (files l)), (5, .a (files l)), (7, .a (.v (.int .i64 (((manyC key l : Nat) : Int))))), (10, .a (.v (.int .i64 (((manyC key l : Nat) : Int))))), (14, .a (files (l.map (nmG sfx)))), (15, .a (fcsA fl)), (146, .a (fcsA fl)), (147, .a (.v (.int .i64 ((fl.map FC.cs).length)))), (148, .a (.v (.int .i64 (((k + 1) : Int)))))], []⟩, ⟨rfl, (Slots.cons rfl (by first | exact .refl _ | exact .nilOwn _ _ | exact .nilSl _ | exact .ownSl _ _ _  | exact SV.le.of_eq (by simp)) (Slots.cons rfl (by first | exact .refl _ | exact .nilOwn _ _ | exact .nilSl _ | exact .ownSl _ _ _  | exact SV.le.of_eq (by simp)) (Slots.cons rfl (by first | exact .refl _ | exact .nilOwn _ _ | exact .nilSl _ | exact .ownSl _ _ _  | exact SV.le.of_eq (by simp)) (Slots.cons rfl (by first | exact .refl _ | exact .nilOwn _ _ | exact .nilSl _ | exact .ownSl _ _ _  | exact SV.le.of_eq (by simp)) (Slots.cons rfl (by first | exact .refl _ | exact .nilOwn _ _ | exact .nilSl _ | exact .ownSl _ _ _  | exact SV.le.of_eq (by simp)) (Slots.cons rfl (by first | exact .refl _ | exact .nilOwn _ _ | exact .nilSl _ | exact .ownSl _ _ _  | exact SV.le.of_eq (by simp)) (Slots.cons rfl (by first | exact .refl _ | exact .nilOwn _ _ | exact .nilSl _ | exact .ownSl _ _ _  | exact SV.le.of_eq (by simp)) (Slots.cons rfl (by first | exact .refl _ | exact .nilOwn _ _ | exact .nilSl _ | exact .ownSl _ _ _  | exact SV.le.of_eq (by simp)) (Slots.cons rfl (by first | exact .refl _ | exact .nilOwn _ _ | exact .nilSl _ | exact .ownSl _ _ _  | exact SV.le.of_eq (by simp)) Slots.nil))))))))), (by first | exact List.Sublist.refl _ | exact .cons_cons _ (.cons _ (.refl _)) | exact List.nil_sublist _ | exact .cons _ (.refl _) | exact .cons _ (.cons _ (.refl _)) | exact .cons _ (.cons _ (.cons _ (.refl _))) | exact .cons _ (.cons _ (.cons _ (.cons _ (.refl _)))) | exact .cons_cons _ (List.nil_sublist _))⟩, (by omega), ⟨k + 1, rfl, rfl, (by omega)⟩⟩
       ·
        have hge : fl.length ≤ k := by have := of_decide_eq_false hc11; simp at this; omega
        refine awp_exit ?_
        refine x_thenE ?_
        refine x_thenE ?_
        refine x_blockE ?_
        refine x_then ?_
        refine awp_seq ?_
        refine awp_region ?_
        refine r_move rfl rfl ?_
        refine r_move rfl rfl ?_
        refine r_cmp rfl rfl rfl rfl ?_
        refine r_move rfl rfl ?_
        refine g_run rfl rfl (beq_self_eq_true _) ?_
        refine r_move rfl rfl ?_
        refine g_run rfl rfl (beq_self_eq_true _) ?_
        refine r_lenS rfl rfl TG.sl57 rfl ?_
        refine g_run rfl rfl (beq_self_eq_true _) ?_
        refine r_move rfl rfl ?_
        refine g_run rfl rfl (beq_self_eq_true _) ?_
        refine r_lenS rfl rfl TG.sl65 rfl ?_
        refine g_run rfl rfl (beq_self_eq_true _) ?_
        refine r_cmp rfl rfl rfl rfl ?_
        refine r_pickT rfl (beq_self_eq_true _) rfl rfl ?_
        refine r_move rfl rfl ?_
        refine g_run rfl rfl (by rw [List.length_map, List.length_map, hfL]; exact beq_self_eq_true _) ?_
        refine r_move rfl rfl ?_
        refine g_run rfl rfl (by rw [List.length_map, List.length_map, hfL]; exact beq_self_eq_true _) ?_
        refine r_move rfl rfl ?_
        refine g_run rfl rfl (by rw [List.length_map, List.length_map, hfL]; exact beq_self_eq_true _) ?_
        refine r_call0 hq rfl rfl (.cons (.ev rfl rfl) (.cons (.ev rfl rfl) .nil)) (renames_ok l (l.map (nmG sfx)) (by omega) (by omega) hdl hnD) rfl TG.en26 rfl (fun r hr => ?_)
        obtain rfl := hr
        rw [renames_all hnd hfree]
        refine g_run rfl rfl (by rw [List.length_map, List.length_map, hfL]; exact beq_self_eq_true _) ?_
        refine r_move rfl rfl ?_
        refine g_run rfl rfl (by rw [List.length_map, List.length_map, hfL]; exact beq_self_eq_true _) ?_
        refine r_lenS rfl rfl TG.sl65 rfl ?_
        refine g_run rfl rfl (by rw [List.length_map, List.length_map, hfL]; exact beq_self_eq_true _) ?_
        refine r_cmp rfl rfl rfl rfl ?_
        refine r_pickT rfl (by rw [List.length_map, List.length_map, hfL]; exact beq_self_eq_true _) rfl rfl ?_
        refine r_assign rfl rfl ?_
        refine awl_nil ?_
        refine x_then ?_
        refine awp_ret ?_
        exact ⟨(.inl rfl), _, [], (.one (by first | exact .mk rfl rfl | exact .nil rfl)), ⟨rfl, by first | rfl | (simp [boolA, SV.av]; done)⟩, (List.nil_sublist _), (by simp)⟩
theorem ransom_lawI (l : List File) (k : Int) (hk : (Lit.int .u8 k).wf = true) : AWC MG Tryd.prog 4 [files l, .v (.int .u8 k)] [] [] (fun r n => n = [] ∧ r = boolA true) := by
  have hb : IntKind.u8.min ≤ k ∧ k ≤ IntKind.u8.max := by simpa [Lit.wf] using hk
  simp [IntKind.min, IntKind.max, IntKind.bits, IntKind.signed] at hb
  have e : ((UInt8.ofNat k.toNat).toNat : Int) = k := by simp [UInt8.toNat_ofNat']; omega
  rw [← e]
  exact ransom_law l _
end Go.Proofs.YtcbhhjahjnlfhaaDoor.A
